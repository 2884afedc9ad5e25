/- Texts of this claim, one behind the other: Kit, G1, Oa, Ob, Dp, Dq, Gp, Gs, Gt, Op, Oc, Od, Dw1, Shelf, Dr1. -/
import Derived.Test.YtgfammlmbjmkoaaGreatDoorRows
import Derived.WalkKit
import Derived.WalkLawsBesides
import Derived.WalkSpells
import Derived.Outline
import Derived.OneCell
import Derived.Laws.EntriesVeiled
import Derived.WalkMore
import Derived.Lib.ConvBytes
import Derived.Lib.Hide
import Derived.Defers
import Derived.Recover
import Derived.BigCall
import Derived.Carry
import Derived.ChangeMaps4
import Derived.MapKept
import Derived.RangeFuncRecord
import Derived.Below
import Derived.Lib.Bytealg
import Derived.Lib.SplitLaws
import Derived.Lib.Replace
import Derived.Lib.IndexMore
import Derived.Deep.QuietTactic
import Derived.BigQuiet
import Derived.Laws.StructEq
import Derived.KernelRfl
import Derived.Shelf.Strings.Builder1
import Derived.Shelf.Strings.Builder2
import Derived.Shelf.Strings.OnBuilder
import Derived.Shelf.Small.Utf8
import Derived.Shelf.Small.Strs
import Derived.Shelf.Strings.BuilderF
import Derived.Shelf.Strings.BuilderK
import Derived.Shelf.Strings.Builder2Cap
import Derived.Shelf.Strconv.Itoa0
import Derived.Shelf.Strconv.Itoa1
import Derived.Shelf.LaysM
import Derived.Shelf.Strconv.Itoa2
import Derived.Shelf.Strings.Search1
import Derived.Shelf.Strings.Search2
import Derived.Shelf.Strings.Search3
import Derived.Shelf.Strings.Count
import Derived.Shelf.Strings.Shaped
import Derived.Shelf.Strings.Split
import Derived.Shelf.Strings.SplitShaped
import Derived.Shelf.Unicode.Latin
import Derived.Shelf.Unicode.Decode
import Derived.Shelf.Strings.RuneCount
import Derived.Shelf.Strings.Explode
import Derived.Shelf.Unicode.DecodeSlow
import Derived.Shelf.Unicode.DecodeAny
import Derived.Shelf.Unicode.CaseLookup
import Derived.Shelf.Unicode.CaseConvert
import Derived.Shelf.Unicode.CaseTo
import Derived.Shelf.Unicode.CaseLaid
import Derived.Test.YtgfammlmbjmkoaaGreatDoorProg
/- Small lemmas that the walks of this claim use: how an ending is closed, how worlds go on. No conditions but those that each lemma states. -/
namespace Go.Proofs.YtgfammlmbjmkoaaGreatDoor
set_option linter.unusedVariables false
set_option linter.unusedSimpArgs false
open Go.RowKit
theorem ret_int {k : IntKind} {a b : Int} (h : a = b) : Ending.returned (.int k a) = Ending.returned (.int k b) := by rw [h]
theorem ret_bool {a b : Bool} (h : a = b) : Ending.returned (.bool a) = Ending.returned (.bool b) := by rw [h]
theorem ret_str {a b : ByteArray} (h : a = b) : Ending.returned (.string a) = Ending.returned (.string b) := by rw [h]
theorem ret_pair {k k' : IntKind} {a b c d : Int} (h : a = c) (h' : b = d) : Ending.returned (.tuple #[.int k a, .int k' b]) = Ending.returned (.tuple #[.int k c, .int k' d]) := by rw [h, h']
/-- below a heap's size: all old cells and marks read as before -/
theorem bcell {W w1 : World} (hb : Below W.heap.size W w1) : (∀ b o, b < W.heap.size → w1.cell? ⟨b, o, none⟩ = W.cell? ⟨b, o, none⟩) ∧ (∀ b o, b < W.heap.size → w1.frozen? ⟨b, o, none⟩ = W.frozen? ⟨b, o, none⟩) :=
  ⟨fun b o h => hb.cell (p := ⟨b, o, none⟩) h, fun b o h => hb.frozen (p := ⟨b, o, none⟩) h⟩
/-- a cell that holds something lies in the heap -/
theorem lt_of_cell {w : World} {b o : Nat} {v : Value} (h : w.cell? ⟨b, o, none⟩ = some v) : b < w.heap.size := by
  rcases Nat.lt_or_ge b w.heap.size with h' | h'
  · exact h'
  · simp [World.cell?, Array.getElem?_eq_none h'] at h
theorem cell_below {W w1 : World} (hb : Below W.heap.size W w1) {b o : Nat} {v : Value} (h : W.cell? ⟨b, o, none⟩ = some v) : w1.cell? ⟨b, o, none⟩ = some v :=
  (hb.cell (p := ⟨b, o, none⟩) (lt_of_cell h)).trans h
theorem take_snoc (s : ByteArray) (k : Nat) (h : k < s.size) : s.data.toList.take (k + 1) = s.data.toList.take k ++ [s[k]] := by
  rw [List.take_succ_eq_append_getElem (by simpa using h)]; rfl
theorem below_freeze (B : Nat) (w : World) (a : Addr) (n : Nat) (h : B ≤ a.block) : Below B w (w.freeze a n) := by
  unfold World.freeze
  split
  · exact Below.refl _ _
  · refine ⟨rfl, rfl, rfl, by simp, fun k hk => ?_⟩
    simp only [Array.getElem?_modify]
    rw [if_neg (by omega)]
theorem below_bytesWorld (B : Nat) (w : World) (e : TypeId) (s : ByteArray) (h : B ≤ w.heap.size) : Below B w (Lib.bytesWorld w e s) := by
  unfold Lib.bytesWorld
  exact ((Below.refl B w).drew.alloc h _).trans (below_freeze _ _ _ _ h)
/-- a row of bytes in memory -/
def Bytes (w : World) (B off : Nat) (l : List UInt8) : Prop := ∀ i, i < l.length → w.cell? ⟨B, off + i, none⟩ = some (.int .u8 (l.getD i 0).toNat)
theorem bytes_bytesWorld (w : World) (e : TypeId) (s : ByteArray) : Bytes (Lib.bytesWorld w e s) w.heap.size 0 s.data.toList := by
  intro i hi
  rw [Nat.zero_add]
  exact Lib.bytesWorld_cell w e s i (by simpa using hi)
theorem bytes_bytesWorld_at (w : World) (e : TypeId) (s : ByteArray) (B : Nat) (hB : B = w.heap.size) : Bytes (Lib.bytesWorld w e s) B 0 s.data.toList := by
  subst hB
  exact bytes_bytesWorld w e s
theorem Bytes.below {w w' : World} {B off : Nat} {l : List UInt8} (h : Bytes w B off l) (hb : Below w.heap.size w w') : Bytes w' B off l :=
  fun i hi => cell_below hb (h i hi)
/-- a jump forward to the label of the scope around it -/
def onGoto (l : Nat) (K : Act → World → Prop) (Q : Exit → Act → World → Prop) : Exit → Act → World → Prop
  | .goto l', a, w => l' = l ∧ K a w
  | e, a, w => Q e a w
section
variable {l : Nat} {K : Act → World → Prop} {Q : Exit → Act → World → Prop} {a : Act} {w : World}
@[go_sem] theorem onGoto_normal : onGoto l K Q .normal a w = Q .normal a w := rfl
@[go_sem] theorem onGoto_exit (id : Nat) : onGoto l K Q (.exit id) a w = Q (.exit id) a w := rfl
@[go_sem] theorem onGoto_ret : onGoto l K Q .ret a w = Q .ret a w := rfl
@[go_sem] theorem onGoto_panic (ch : List PanicEntry) : onGoto l K Q (.panic ch) a w = Q (.panic ch) a w := rfl
theorem onGoto_goto (h : K a w) : onGoto l K Q (.goto l) a w := ⟨rfl, h⟩
theorem wp_scope_fwd {P : Program} {c rest : Code} (l : Nat) (hl : findLabel c l = some rest) (h : c.wp P (onGoto l (fun a w => rest.wp P (Exit.noGoto Q) a w) Q) a w) : (Code.scope c).wp P Q a w := by
  intro b k cs
  obtain ⟨e, a₁, w₁, hq, harr⟩ := h b (.inScope c :: k) cs
  cases e with
  | normal => exact ⟨.normal, a₁, w₁, hq, .head step_scope (Steps.trans harr (.one step_inScope))⟩
  | exit id => exact ⟨.exit id, a₁, w₁, hq, fun k' hk => .head step_scope (harr k' (by simp [exitTo, hk]))⟩
  | goto l' =>
    obtain ⟨rfl, hK⟩ := hq
    have hs := harr (.code rest :: .inScope c :: k) (by simp [gotoIn, hl])
    obtain ⟨e, a₂, w₂, hq₂, harr₂⟩ := hK b (.inScope c :: k) cs
    cases e with
    | normal => exact ⟨.normal, a₂, w₂, hq₂, .head step_scope (Steps.trans hs (Steps.trans harr₂ (.one step_inScope)))⟩
    | exit id => exact ⟨.exit id, a₂, w₂, hq₂, fun k' hk => .head step_scope (Steps.trans hs (harr₂ k' (by simp [exitTo, hk])))⟩
    | goto _ => exact hq₂.elim
    | ret => exact ⟨_, a₂, w₂, hq₂, .of_steps (.head step_scope hs) harr₂⟩
    | panic ch => exact ⟨_, a₂, w₂, hq₂, .of_steps (.head step_scope hs) harr₂⟩
    | outgrown => exact ⟨_, a₂, w₂, hq₂, .of_steps (.head step_scope hs) harr₂⟩
  | ret => exact ⟨_, a₁, w₁, hq, .of_steps (.one step_scope) harr⟩
  | panic ch => exact ⟨_, a₁, w₁, hq, .of_steps (.one step_scope) harr⟩
  | outgrown => exact ⟨_, a₁, w₁, hq, .of_steps (.one step_scope) harr⟩
end
end Go.Proofs.YtgfammlmbjmkoaaGreatDoor

/- target: must gives up; caught, of a frame that returns and of one that panics. -/
namespace Go.Proofs.YtgfammlmbjmkoaaGreatDoor
set_option linter.unusedVariables false
set_option linter.unusedSimpArgs false
open Go.RowKit
set_option maxHeartbeats 1000000
/-- what is given up with -/
def errno (n : Int) : Value := .iface 24 (.int .i64 n)
theorem tg_must (n : Int) (w : World) :
    Calls Tryz.prog 98 #[.bool true, .int .i64 n] w fun e w' => e = .returned (.tuple #[]) ∧ w' = w := by
  go_enter Tryz.func98, Tryz.ntmps98
  go_wp2
  all_goals first | contradiction | simp [bodyPost, results, Tryz.results98, go_sem]
theorem tg_must_no (n : Int) (w : World) :
    Calls Tryz.prog 98 #[.bool false, .int .i64 n] w fun e w' => e = .panicked [{ v := errno n, recovered := false }] ∧ w' = w := by
  go_enter Tryz.func98, Tryz.ntmps98
  go_wp2
  all_goals first | contradiction | simp [errno, bodyPost]
theorem tg_caught_idle (p : Addr) (cl : Value) (w : World) :
    CallsD Tryz.prog 84 #[.pointer (some p), cl] .returning w fun e u' w' => e = .returned (.tuple #[]) ∧ u' = .returning ∧ w' = w := by
  refine callsD_of_wpS Tryz.func84 rfl fun c₀ cs hu => ?_
  apply wpS_seq
  apply wpS_region
  simp [wpOpsS, go_sem, recoverD, hu, Tryz.ntmps84, Exit.thenS]
  apply wpS_seq
  apply wpS_region
  simp [wpOpsS, go_sem, recoverD, hu, Exit.thenS]
  refine wpS_cond (t := false) (by simp [Act.eval, Array.replicate]) ?_
  simp only [Bool.false_eq_true, if_false]
  refine wpS_of_wp (wp_skip ?_)
  cases c₀
  simp_all [bodyPostS, results, Tryz.results84]
theorem errno_is (v : Value) (W : World) : (Instr.typeAssert (.iface 24 v) 20 24 true).run Tryz.prog W = .ok (.tuple #[v, .bool true]) W := by
  simp [Instr.typeAssert, go_sem, Tryz.underlying24, Result.andThen]
set_option maxRecDepth 100000 in
theorem tg_caught (p : Addr) (f : FuncId) (cap : Array Value) (n : Int) (older : List PanicEntry) (w w1 : World)
    (hf : ∀ W, (callFunc f cap).run Tryz.prog W = .ok (.enter f cap) W) (hC : Calls Tryz.prog f cap w (fun e w' => e = .returned (.tuple #[]) ∧ w' = w1)) (old : Value) (hc : w1.cell? p = some old) (hz : w1.frozen? p = false) :
    CallsD Tryz.prog 84 #[.pointer (some p), .func (.func f) #[] cap] (.panicking ({ v := errno n, recovered := false } :: older)) w fun e u' w' =>
      e = .returned (.tuple #[]) ∧ u' = .panicking ({ v := errno n, recovered := true } :: older) ∧ w' = w1.setCell p (.int .i64 n) := by
  have K := Lib.hid hC
  refine callsD_of_wpS Tryz.func84 rfl fun c₀ cs hu => ?_
  apply wpS_seq
  apply wpS_region
  simp [wpOpsS, go_sem, recoverD, hu, Tryz.ntmps84, Exit.thenS]
  apply wpS_seq
  apply wpS_region
  simp [wpOpsS, go_sem, recoverD, hu, Exit.thenS, errno]
  refine wpS_cond (t := true) (by simp [Act.eval, Array.replicate]) ?_
  simp only [if_true]
  refine wpS_of_wp ?_
  simp [Array.replicate, List.replicate, List.setIfInBounds_toArray]
  have hta : ∀ (v : Value) (W : World), (Instr.typeAssert (.iface 24 v) 20 24 true).run Tryz.prog W = .ok (.tuple #[v, .bool true]) W := errno_is
  go_wp2_with fail
  refine K.out.mono ?_
  rintro e w' ⟨rfl, rfl⟩
  go_wp2
  simp [bodyPostS, results, Tryz.results84, go_sem]
end Go.Proofs.YtgfammlmbjmkoaaGreatDoor

/- route: must gives up; caught, of a frame that returns and of one that panics. -/
namespace Go.Proofs.YtgfammlmbjmkoaaGreatDoor
set_option linter.unusedVariables false
set_option linter.unusedSimpArgs false
open Go.RowKit
set_option maxHeartbeats 1000000
theorem rt_must (n : Int) (w : World) :
    Calls Tryz.prog 44 #[.bool true, .int .i64 n] w fun e w' => e = .returned (.tuple #[]) ∧ w' = w := by
  go_enter Tryz.func44, Tryz.ntmps44
  go_wp2
  all_goals first | contradiction | simp [bodyPost, results, Tryz.results44, go_sem]
theorem rt_must_no (n : Int) (w : World) :
    Calls Tryz.prog 44 #[.bool false, .int .i64 n] w fun e w' => e = .panicked [{ v := errno n, recovered := false }] ∧ w' = w := by
  go_enter Tryz.func44, Tryz.ntmps44
  go_wp2
  all_goals first | contradiction | simp [errno, bodyPost]
theorem rt_caught_idle (p : Addr) (cl : Value) (w : World) :
    CallsD Tryz.prog 35 #[.pointer (some p), cl] .returning w fun e u' w' => e = .returned (.tuple #[]) ∧ u' = .returning ∧ w' = w := by
  refine callsD_of_wpS Tryz.func35 rfl fun c₀ cs hu => ?_
  apply wpS_seq
  apply wpS_region
  simp [wpOpsS, go_sem, recoverD, hu, Tryz.ntmps35, Exit.thenS]
  apply wpS_seq
  apply wpS_region
  simp [wpOpsS, go_sem, recoverD, hu, Exit.thenS]
  refine wpS_cond (t := false) (by simp [Act.eval, Array.replicate]) ?_
  simp only [Bool.false_eq_true, if_false]
  refine wpS_of_wp (wp_skip ?_)
  cases c₀
  simp_all [bodyPostS, results, Tryz.results35]
set_option maxRecDepth 100000 in
theorem rt_caught (p : Addr) (f : FuncId) (cap : Array Value) (n : Int) (older : List PanicEntry) (w w1 : World)
    (hf : ∀ W, (callFunc f cap).run Tryz.prog W = .ok (.enter f cap) W) (hC : Calls Tryz.prog f cap w (fun e w' => e = .returned (.tuple #[]) ∧ w' = w1)) (old : Value) (hc : w1.cell? p = some old) (hz : w1.frozen? p = false) :
    CallsD Tryz.prog 35 #[.pointer (some p), .func (.func f) #[] cap] (.panicking ({ v := errno n, recovered := false } :: older)) w fun e u' w' =>
      e = .returned (.tuple #[]) ∧ u' = .panicking ({ v := errno n, recovered := true } :: older) ∧ w' = w1.setCell p (.int .i64 n) := by
  have K := Lib.hid hC
  refine callsD_of_wpS Tryz.func35 rfl fun c₀ cs hu => ?_
  apply wpS_seq
  apply wpS_region
  simp [wpOpsS, go_sem, recoverD, hu, Tryz.ntmps35, Exit.thenS]
  apply wpS_seq
  apply wpS_region
  simp [wpOpsS, go_sem, recoverD, hu, Exit.thenS, errno]
  refine wpS_cond (t := true) (by simp [Act.eval, Array.replicate]) ?_
  simp only [if_true]
  refine wpS_of_wp ?_
  simp [Array.replicate, List.replicate, List.setIfInBounds_toArray]
  have hta : ∀ (v : Value) (W : World), (Instr.typeAssert (.iface 24 v) 20 24 true).run Tryz.prog W = .ok (.tuple #[v, .bool true]) W := errno_is
  go_wp2_with fail
  refine K.out.mono ?_
  rintro e w' ⟨rfl, rfl⟩
  go_wp2
  simp [bodyPostS, results, Tryz.results35, go_sem]
end Go.Proofs.YtgfammlmbjmkoaaGreatDoor

/- route: the map of the signs, and what is looked up in it. -/
namespace Go.Proofs.YtgfammlmbjmkoaaGreatDoor
set_option linter.unusedVariables false
set_option linter.unusedSimpArgs false
open Go.RowKit
open Go.ChangeMaps (setBlock)
set_option maxHeartbeats 1000000
/-- a part's value -/
def pv (p : Int × List UInt8) : Value := .agg #[.int .i64 p.1, .string ⟨p.2.toArray⟩]
/-- the signs' map -/
def sgnMap : Obj := .map #[⟨.string ⟨#[42]⟩, .agg #[.int .i64 2, .string ⟨#[]⟩], 0⟩, ⟨.string ⟨#[42, 42]⟩, .agg #[.int .i64 3, .string ⟨#[]⟩], 1⟩] 2
theorem map_put (W : World) (b : Nat) (es : Array MapEntry) (clock : Nat) (k : ByteArray) (v : Value) (hb : W.heap[b]? = some (.map es clock)) (hn : Instr.findNow .string (.string k) es.toList 0 = some none) :
    (Instr.mapUpdate 113 (.map (some b)) (.string k) v).run Tryz.prog W = .ok () (setBlock W b (.map (es.push ⟨.string k, v, clock⟩) (clock + 1))) := by
  simp [Instr.mapUpdate, run_underlying Tryz.underlying113, MapKept.run_getObj_map hb, MapKept.run_checkKey (k := .string k) Tryz.underlying9 (by simp [MapKept.IsKey]) false 9999, MapKept.run_findKey Tryz.underlying9 hn, MapKept.run_setObj_map _ hb, Result.andThen, setBlock]
theorem map_look (W : World) (b : Nat) (es : Array MapEntry) (clock : Nat) (k : ByteArray) (i : Nat) (v : Value) (hb : W.heap[b]? = some (.map es clock)) (hn : Instr.findNow .string (.string k) es.toList 0 = some (some (i, v))) (c : Bool) :
    (Instr.lookup 113 (.map (some b)) (.string k) c).run Tryz.prog W = .ok (if c then .tuple #[v, .bool true] else v) W := by
  simp [Instr.lookup, run_underlying Tryz.underlying113, MapKept.run_getObj_map hb, MapKept.run_checkKey (k := .string k) Tryz.underlying9 (by simp [MapKept.IsKey]) _ 9999, MapKept.run_findKey Tryz.underlying9 hn, Result.andThen]
theorem map_miss (W : World) (b : Nat) (es : Array MapEntry) (clock : Nat) (k : ByteArray) (hb : W.heap[b]? = some (.map es clock)) (hn : Instr.findNow .string (.string k) es.toList 0 = some none) (c : Bool) :
    (Instr.lookup 113 (.map (some b)) (.string k) c).run Tryz.prog W = .ok (if c then .tuple #[.agg #[.int .i64 0, .string ⟨#[]⟩], .bool false] else .agg #[.int .i64 0, .string ⟨#[]⟩]) W := by
  have hz : (zeroValue 35).run Tryz.prog W = .ok (.agg #[.int .i64 0, .string ⟨#[]⟩]) W := by kernel_rfl
  simp [Instr.lookup, run_underlying Tryz.underlying113, MapKept.run_getObj_map hb, MapKept.run_checkKey (k := .string k) Tryz.underlying9 (by simp [MapKept.IsKey]) _ 9999, MapKept.run_findKey Tryz.underlying9 hn, Result.andThen, hz]
theorem setBlock_at {w : World} {b : Nat} {o o' : Obj} (h : w.heap[b]? = some o) : (setBlock w b o').heap[b]? = some o' := by
  have hb := (Array.getElem?_eq_some_iff.1 h).1
  simp [setBlock, hb]
theorem setBlock_below (w : World) (b B : Nat) (o : Obj) (hB : B ≤ b) : Below B w (setBlock w b o) :=
  ⟨rfl, rfl, rfl, by simp [setBlock], fun k hk => by simp only [setBlock]; rw [Array.getElem?_setIfInBounds_ne]; omega⟩
theorem rt_signs (w : World) :
    Calls Tryz.prog 71 #[] w fun e w' => e = .returned (.map (some w.heap.size)) ∧ w'.heap[w.heap.size]? = some sgnMap ∧ Below w.heap.size w w' := by
  have hmm := @run_makeMap Tryz.prog
  have hn := World.alloc_heap_new w (.map #[] 0)
  have hu1 := map_put (w.alloc (.map #[] 0)) w.heap.size #[] 0 ⟨#[42]⟩ (.agg #[.int .i64 2, .string ⟨#[]⟩]) hn rfl
  obtain ⟨W1, hW1⟩ : ∃ Z, setBlock (w.alloc (.map #[] 0)) w.heap.size (.map (#[].push ⟨.string ⟨#[42]⟩, .agg #[.int .i64 2, .string ⟨#[]⟩], 0⟩) (0 + 1)) = Z := ⟨_, rfl⟩
  rw [hW1] at hu1
  have hn1 : W1.heap[w.heap.size]? = some (.map #[⟨.string ⟨#[42]⟩, .agg #[.int .i64 2, .string ⟨#[]⟩], 0⟩] 1) := by rw [← hW1]; exact setBlock_at hn
  have hb1 : Below w.heap.size w W1 := by rw [← hW1]; exact ((Below.refl _ _).alloc (Nat.le_refl _) _).trans (setBlock_below _ _ _ _ (Nat.le_refl _))
  have hu2 := map_put W1 w.heap.size _ 1 ⟨#[42, 42]⟩ (.agg #[.int .i64 3, .string ⟨#[]⟩]) hn1 rfl
  obtain ⟨W2, hW2⟩ : ∃ Z, setBlock W1 w.heap.size (.map (#[⟨.string ⟨#[42]⟩, .agg #[.int .i64 2, .string ⟨#[]⟩], 0⟩].push ⟨.string ⟨#[42, 42]⟩, .agg #[.int .i64 3, .string ⟨#[]⟩], 1⟩) (1 + 1)) = Z := ⟨_, rfl⟩
  rw [hW2] at hu2
  have HN := Lib.hid (show W2.heap[w.heap.size]? = some sgnMap by rw [← hW2]; exact setBlock_at hn1)
  have HB := Lib.hid (show Below w.heap.size w W2 by rw [← hW2]; exact hb1.trans (setBlock_below _ _ _ _ (Nat.le_refl _)))
  clear hn hn1 hb1 hW1 hW2
  go_enter Tryz.func71, Tryz.ntmps71
  go_wp2_with fail
  go_ret
  exact ⟨rfl, HN.out, HB.out⟩
end Go.Proofs.YtgfammlmbjmkoaaGreatDoor

/- What the functions of layer 1 (decimal) compute, as plain functions on whole numbers, and laws of these: no program in sight. No conditions but those that each law states. -/
namespace Go.Proofs.YtgfammlmbjmkoaaGreatDoor
set_option linter.unusedVariables false
set_option linter.unusedSimpArgs false
namespace Dp
/-- a number of 64 bits -/
def U (a : Int) : Prop := 0 ≤ a ∧ a < 18446744073709551616
def addN (a b : Int) : Int := if a + b < 18446744073709551616 then a + b else 0
def addE (a b : Int) : Int := if a + b < 18446744073709551616 then 0 else 111
def subN (a b : Int) : Int := if a < b then 0 else a - b
def subE (a b : Int) : Int := if a < b then 112 else 0
def mulN (a b : Int) : Int := if a * b < 18446744073709551616 then a * b else 0
def mulE (a b : Int) : Int := if a * b < 18446744073709551616 then 0 else 111
def nextN (a b : Int) : Int := if b ≤ a then 0 else a + 1
def nextE (a b : Int) : Int := if b ≤ a then 111 else 0
def clampN (n a b : Int) : Int := if b < a then 0 else if n < a then a else if b < n then b else n
def clampE (a b : Int) : Int := if b < a then 2 else 0
theorem addN_U {a b : Int} (ha : U a) (hb : U b) : U (addN a b) := by unfold U addN at *; split <;> omega
theorem subN_U {a b : Int} (ha : U a) (hb : U b) : U (subN a b) := by unfold U subN at *; split <;> omega
theorem mulN_U {a b : Int} (ha : U a) (hb : U b) : U (mulN a b) := by
  unfold U mulN at *
  have h : 0 ≤ a * b := Int.mul_nonneg ha.1 hb.1
  split <;> omega
/-- Go's own test whether a product is too great: by wrapping and dividing. -/
theorem mul_div {a b : Int} (ha : U a) (hb : U b) (h0 : a ≠ 0) : (((a * b) % 18446744073709551616) / a = b) ↔ a * b < 18446744073709551616 := by
  unfold U at *
  have hp : 0 ≤ a * b := Int.mul_nonneg ha.1 hb.1
  constructor
  · intro h
    have h1 : a * (((a * b) % 18446744073709551616) / a) ≤ (a * b) % 18446744073709551616 := by
      rw [Int.mul_comm]; exact Int.ediv_mul_le _ h0
    rw [h] at h1
    omega
  · intro h
    rw [Int.emod_eq_of_lt hp h, Int.mul_comm, Int.mul_ediv_cancel _ h0]
theorem mul_most {a b : Int} (ha : U a) (hb : U b) (h0 : a ≠ 0) : (18446744073709551615 / a < b) ↔ ¬ a * b < 18446744073709551616 := by
  unfold U at *
  have hpos : 0 < a := by omega
  rw [Int.ediv_lt_iff_lt_mul hpos, Int.mul_comm]
  omega
end Dp
end Go.Proofs.YtgfammlmbjmkoaaGreatDoor

/- How digits are read to a base of ten or of sixteen, as plain functions: no program in sight. -/
namespace Go.Proofs.YtgfammlmbjmkoaaGreatDoor
set_option linter.unusedVariables false
set_option linter.unusedSimpArgs false
namespace Dp
/-- a digit's value to the base 16; 16: it is none -/
def digV (c : Int) : Int := if 48 ≤ c ∧ c ≤ 57 then c - 48 else if 97 ≤ c ∧ c ≤ 102 then c - 87 else if 65 ≤ c ∧ c ≤ 70 then c - 55 else 16
/-- a digit's value to a base, -1: it is none -/
def valV (b c : Int) : Int := if digV c < b then digV c else -1
theorem digV_lo (c : Int) : 0 ≤ digV c ∧ digV c ≤ 16 := by
  unfold digV
  repeat' split
  all_goals omega
/-- digits, one behind the other, behind a number -/
def rd (b : Int) : List UInt8 → Int → Int × Int
  | [], n => (n, 0)
  | c :: l, n => if mulE n b ≠ 0 then (0, 111) else if addE (mulN n b) (digV c.toNat) ≠ 0 then (0, 111) else rd b l (addN (mulN n b) (digV c.toNat))
/-- are all of them digits? -/
def allD (b : Int) (l : List UInt8) : Bool := l.all fun c => decide (digV c.toNat < b)
theorem allD_no {b : Int} {l : List UInt8} {k : Nat} (hk : k < l.length) (h : decide (digV (l[k].toNat : Int) < b) = false) : allD b l = false := by
  unfold allD
  rw [List.all_eq_false]
  exact ⟨l[k], List.getElem_mem hk, by simpa using h⟩
def numN (b : Int) (l : List UInt8) : Int := if l = [] ∨ allD b l = false then 0 else (rd b l 0).1
def numE (b : Int) (l : List UInt8) : Int := if l = [] ∨ allD b l = false then 110 else (rd b l 0).2
def parN (l : List UInt8) : Int := if 1 < l.length ∧ l.head? = some 48 then 0 else numN 10 l
def parE (l : List UInt8) : Int := if 1 < l.length ∧ l.head? = some 48 then 110 else numE 10 l
theorem digit_U (c : Int) : U (digV c) := by have := digV_lo c; unfold U; omega
theorem rd_err (b : Int) (l : List UInt8) (n : Int) : (rd b l n).2 = 0 ∨ ((rd b l n).1 = 0 ∧ (rd b l n).2 = 111) := by
  induction l generalizing n with
  | nil => exact .inl rfl
  | cons c l ih => simp only [rd]; split; exact .inr ⟨rfl, rfl⟩; split; exact .inr ⟨rfl, rfl⟩; exact ih _
def known (b : Int) : List UInt8 := if b = 10 then [48, 49, 50, 51, 52, 53, 54, 55, 56, 57] else [48, 49, 50, 51, 52, 53, 54, 55, 56, 57, 97, 98, 99, 100, 101, 102]
theorem index_ten : ∀ c : Fin 256, Lib.indexByte [48, 49, 50, 51, 52, 53, 54, 55, 56, 57] (UInt8.ofNat c.val) = valV 10 c.val := by decide +kernel
theorem index_hex : ∀ c : Fin 256, Lib.indexByte [48, 49, 50, 51, 52, 53, 54, 55, 56, 57, 97, 98, 99, 100, 101, 102] (UInt8.ofNat (if 65 ≤ c.val ∧ c.val ≤ 70 then c.val + 32 else c.val)) = valV 16 c.val := by decide +kernel
end Dp
end Go.Proofs.YtgfammlmbjmkoaaGreatDoor

/- Percent signs read and written, and which parts may be, as plain functions on bytes: no program in sight. No conditions but those that each law states. -/
namespace Go.Proofs.YtgfammlmbjmkoaaGreatDoor
set_option linter.unusedVariables false
set_option linter.unusedSimpArgs false
namespace Gt
/-- a hex digit's value; 16: it is none -/
def hx (c : UInt8) : Int := Dp.digV (c.toNat : Int)
/-- the byte of two hex digits -/
def two (a b : UInt8) : UInt8 := UInt8.ofNat (16 * hx a + hx b).toNat
/-- a byte that stands for itself, a + for a blank where that is asked -/
def bl (p : Bool) (c : UInt8) : UInt8 := if p && c == 43 then 32 else c
/-- a text decoded -/
def dec (p : Bool) : List UInt8 → Option (List UInt8)
  | [] => some []
  | c :: l => if c = 37 then (match l with
      | a :: b :: r => if hx a < 16 ∧ hx b < 16 then (dec p r).map (two a b :: ·) else none
      | _ => none) else (dec p l).map (bl p c :: ·)
theorem hx_lo (c : UInt8) : 0 ≤ hx c ∧ hx c ≤ 16 := Dp.digV_lo _
theorem dec_nil (p : Bool) : dec p [] = some [] := by unfold dec; rfl
theorem dec_other (p : Bool) (c : UInt8) (l : List UInt8) (h : c ≠ 37) : dec p (c :: l) = (dec p l).map (bl p c :: ·) := by
  conv => lhs; unfold dec
  rw [if_neg h]
theorem dec_pct (p : Bool) (a b : UInt8) (r : List UInt8) : dec p (37 :: a :: b :: r) = if hx a < 16 ∧ hx b < 16 then (dec p r).map (two a b :: ·) else none := by
  conv => lhs; unfold dec
  rw [if_pos rfl]
theorem dec_short (p : Bool) (l : List UInt8) (h : l.length < 2) : dec p (37 :: l) = none := by
  conv => lhs; unfold dec
  rw [if_pos rfl]
  match l, h with
  | [], _ => rfl
  | [_], _ => rfl
  | _ :: _ :: _, h => simp only [List.length_cons] at h; omega
/-- where a text is read as far as i: what came of it -/
def DAt (p : Bool) (l acc : List UInt8) (i : Nat) : Prop := i ≤ l.length ∧ acc.length ≤ i ∧ dec p l = (dec p (l.drop i)).map (acc ++ ·)
theorem map_map_cons (o : Option (List UInt8)) (acc : List UInt8) (x : UInt8) : (o.map (x :: ·)).map (acc ++ ·) = o.map ((acc ++ [x]) ++ ·) := by cases o <;> simp
theorem dAt_start (p : Bool) (l : List UInt8) : DAt p l [] 0 := ⟨Nat.zero_le _, Nat.le_refl _, by cases h : dec p l <;> simp [h]⟩
theorem dAt_end {p : Bool} {l acc : List UInt8} {i : Nat} (h : DAt p l acc i) (hi : l.length ≤ i) : dec p l = some acc := by
  rw [h.2.2, List.drop_eq_nil_of_le hi, dec_nil]; simp
theorem drop1 (l : List UInt8) (i : Nat) (h : i < l.length) : l.drop i = l[i] :: l.drop (i + 1) := List.drop_eq_getElem_cons h
theorem dAt_one {p : Bool} {l acc : List UInt8} {i : Nat} (h : DAt p l acc i) (hi : i < l.length) (hc : l[i] ≠ 37) : DAt p l (acc ++ [bl p l[i]]) (i + 1) := by
  refine ⟨hi, by simp; exact h.2.1, ?_⟩
  rw [h.2.2, drop1 l i hi, dec_other _ _ _ hc, map_map_cons]
theorem dAt_pct {p : Bool} {l acc : List UInt8} {i : Nat} (h : DAt p l acc i) (hi : i + 2 < l.length) (hc : l[i] = 37) (hv : hx l[i + 1] < 16 ∧ hx l[i + 2] < 16) : DAt p l (acc ++ [two l[i + 1] l[i + 2]]) (i + 3) := by
  refine ⟨by omega, by simp; have := h.2.1; omega, ?_⟩
  rw [h.2.2, drop1 l i (by omega), drop1 l (i + 1) (by omega), drop1 l (i + 1 + 1) (by omega), hc, dec_pct, if_pos hv, map_map_cons]
theorem dAt_short {p : Bool} {l acc : List UInt8} {i : Nat} (h : DAt p l acc i) (hi : i < l.length) (hc : l[i] = 37) (hs : l.length ≤ i + 2) : dec p l = none := by
  rw [h.2.2, drop1 l i hi, hc, dec_short _ _ (by simp; omega)]; rfl
theorem dAt_bad {p : Bool} {l acc : List UInt8} {i : Nat} (h : DAt p l acc i) (hi : i + 2 < l.length) (hc : l[i] = 37) (hv : ¬ (hx l[i + 1] < 16 ∧ hx l[i + 2] < 16)) : dec p l = none := by
  rw [h.2.2, drop1 l i (by omega), drop1 l (i + 1) (by omega), drop1 l (i + 1 + 1) (by omega), hc, dec_pct, if_neg hv]; rfl
theorem two_val (a b : UInt8) (h : hx a < 16 ∧ hx b < 16) : ((two a b).toNat : Int) = 16 * hx a + hx b := by
  have h1 := hx_lo a; have h2 := hx_lo b
  unfold two
  rw [UInt8.toNat_ofNat']
  omega
theorem rd_two (a b : UInt8) (h : hx a < 16 ∧ hx b < 16) : Dp.rd 16 [a, b] 0 = (16 * hx a + hx b, 0) := by
  have h1 := hx_lo a; have h2 := hx_lo b
  have e1 : Dp.mulE 0 16 = 0 := rfl
  have e2 : Dp.mulN 0 16 = 0 := rfl
  have e3 : Dp.addE 0 (hx a) = 0 := if_pos (by omega)
  have e4 : Dp.addN 0 (hx a) = hx a := (if_pos (by omega)).trans (by omega)
  have e5 : Dp.mulE (hx a) 16 = 0 := if_pos (by omega)
  have e6 : Dp.mulN (hx a) 16 = hx a * 16 := if_pos (by omega)
  have e7 : Dp.addE (hx a * 16) (hx b) = 0 := if_pos (by omega)
  have e8 : Dp.addN (hx a * 16) (hx b) = hx a * 16 + hx b := if_pos (by omega)
  show (if Dp.mulE 0 16 ≠ 0 then _ else if Dp.addE (Dp.mulN 0 16) (hx a) ≠ 0 then _ else Dp.rd 16 [b] (Dp.addN (Dp.mulN 0 16) (hx a))) = _
  rw [if_neg (by rw [e1]; decide), e2, if_neg (by rw [e3]; decide), e4]
  show (if Dp.mulE (hx a) 16 ≠ 0 then _ else if Dp.addE (Dp.mulN (hx a) 16) (hx b) ≠ 0 then _ else Dp.rd 16 [] (Dp.addN (Dp.mulN (hx a) 16) (hx b))) = _
  rw [if_neg (by rw [e5]; decide), e6, if_neg (by rw [e7]; decide), e8]
  show (hx a * 16 + hx b, 0) = _
  rw [Int.mul_comm]
theorem allD_two (a b : UInt8) : Dp.allD 16 [a, b] = decide (hx a < 16 ∧ hx b < 16) := by
  unfold Dp.allD
  simp only [List.all_cons, List.all_nil, Bool.and_true, Bool.decide_and]
  rfl
theorem num_two {a b : UInt8} (h : hx a < 16 ∧ hx b < 16) : Dp.numE 16 [a, b] = 0 ∧ Dp.numN 16 [a, b] = 16 * hx a + hx b := by
  have ha : ¬ ([a, b] = [] ∨ Dp.allD 16 [a, b] = false) := by
    rw [allD_two, decide_eq_true h]; simp
  unfold Dp.numE Dp.numN
  rw [if_neg ha, if_neg ha, rd_two a b h]
  exact ⟨rfl, rfl⟩
theorem num_two_no {a b : UInt8} (h : ¬ (hx a < 16 ∧ hx b < 16)) : Dp.numE 16 [a, b] = 110 := by
  unfold Dp.numE
  rw [if_pos (.inr (by rw [allD_two, decide_eq_false h]))]
/-- does a byte stand as it is? -/
def plainB (c : Int) : Bool := decide (97 ≤ c ∧ c ≤ 122) || decide (65 ≤ c ∧ c ≤ 90) || decide (48 ≤ c ∧ c ≤ 57) || c == 45 || c == 46 || c == 95 || c == 126
def up (i : Nat) : UInt8 := [48, 49, 50, 51, 52, 53, 54, 55, 56, 57, 65, 66, 67, 68, 69, 70].getD i 0
def enc1 (c : UInt8) : List UInt8 := if plainB (c.toNat : Int) then [c] else [37, up (c.toNat / 16), up (c.toNat % 16)]
/-- a text encoded -/
def enc (l : List UInt8) : List UInt8 := l.flatMap enc1
theorem enc_nil : enc [] = [] := rfl
theorem enc_cons (c : UInt8) (l : List UInt8) : enc (c :: l) = enc1 c ++ enc l := rfl
theorem enc_snoc (c : UInt8) (l : List UInt8) : enc (l ++ [c]) = enc l ++ enc1 c := by unfold enc; rw [List.flatMap_append]; simp
theorem enc_append (a b : List UInt8) : enc (a ++ b) = enc a ++ enc b := List.flatMap_append
theorem enc1_length (c : UInt8) : 1 ≤ (enc1 c).length ∧ (enc1 c).length ≤ 3 := by unfold enc1; split <;> simp
theorem enc_length : ∀ l : List UInt8, l.length ≤ (enc l).length ∧ (enc l).length ≤ 3 * l.length
  | [] => ⟨Nat.le_refl _, Nat.le_refl _⟩
  | c :: l => by
    have h := enc_length l
    have h1 := enc1_length c
    rw [enc_cons, List.length_append, List.length_cons]
    omega
theorem up_hx : ∀ c : Fin 256, hx (up (c.val / 16)) = c.val / 16 ∧ hx (up (c.val % 16)) = c.val % 16 ∧ two (up (c.val / 16)) (up (c.val % 16)) = UInt8.ofNat c.val := by decide +kernel
theorem up_hx' (c : UInt8) : hx (up (c.toNat / 16)) = c.toNat / 16 ∧ hx (up (c.toNat % 16)) = c.toNat % 16 ∧ two (up (c.toNat / 16)) (up (c.toNat % 16)) = c := by
  have h := up_hx ⟨c.toNat, c.toNat_lt⟩
  simp only [UInt8.ofNat_toNat] at h
  exact h
theorem plain_not : ∀ c : Fin 256, plainB c.val = true → c.val ≠ 37 ∧ c.val ≠ 43 := by decide +kernel
theorem plain_not' {c : UInt8} (h : plainB (c.toNat : Int) = true) : c ≠ 37 ∧ c ≠ 43 := by
  have h1 := plain_not ⟨c.toNat, c.toNat_lt⟩ h
  exact ⟨fun e => h1.1 (by rw [e]; rfl), fun e => h1.2 (by rw [e]; rfl)⟩
theorem bl_plain {p : Bool} {c : UInt8} (h : c ≠ 43) : bl p c = c := by unfold bl; rw [beq_eq_false_iff_ne.2 h, Bool.and_false]; rfl
/-- decoded behind encoded: the text -/
theorem dec_enc1 (p : Bool) (c : UInt8) (r : List UInt8) : dec p (enc1 c ++ r) = (dec p r).map (c :: ·) := by
  unfold enc1
  by_cases h : plainB (c.toNat : Int) = true
  · rw [if_pos h]
    have h1 := plain_not' h
    rw [List.cons_append, List.nil_append, dec_other _ _ _ h1.1, bl_plain h1.2]
  · rw [if_neg h]
    have h1 := up_hx' c
    have h2 := c.toNat_lt
    show dec p (37 :: up (c.toNat / 16) :: up (c.toNat % 16) :: r) = _
    rw [dec_pct, if_pos (by rw [h1.1, h1.2.1]; omega), h1.2.2]
theorem dec_enc (p : Bool) : ∀ l : List UInt8, dec p (enc l) = some l
  | [] => dec_nil p
  | c :: l => by rw [enc_cons, dec_enc1, dec_enc p l]; rfl
theorem dec_enc_append (p : Bool) : ∀ (l r : List UInt8), dec p (enc l ++ r) = (dec p r).map (l ++ ·)
  | [], r => by show dec p r = _; cases dec p r <;> rfl
  | c :: l, r => by rw [enc_cons, List.append_assoc, dec_enc1, dec_enc_append p l r]; cases dec p r <;> rfl
theorem dec_length (p : Bool) : ∀ (n : Nat) (l r : List UInt8), l.length ≤ n → dec p l = some r → r.length ≤ l.length
  | _, [], r, _, h => by rw [dec_nil] at h; cases h; exact Nat.le_refl _
  | 0, c :: l, r, hn, _ => by simp at hn
  | n + 1, c :: l, r, hn, h => by
    simp only [List.length_cons] at hn ⊢
    by_cases hc : c = 37
    · subst hc
      match l, h with
      | [], h => rw [dec_short _ _ (by simp)] at h; cases h
      | [x], h => rw [dec_short _ _ (by simp)] at h; cases h
      | a :: b :: m, h =>
        rw [dec_pct] at h
        split at h
        · cases hm : dec p m with
          | none => rw [hm] at h; cases h
          | some t =>
            rw [hm] at h
            cases h
            have := dec_length p n m t (by simp at hn; omega) hm
            simp; omega
        · cases h
    · rw [dec_other _ _ _ hc] at h
      cases hm : dec p l with
      | none => rw [hm] at h; cases h
      | some t =>
        rw [hm] at h
        cases h
        have := dec_length p n l t (by omega) hm
        simp; omega
/-- may a part be? -/
def fine (l : List UInt8) : Bool := !(l == [46]) && !(l == [46, 46]) && l.all fun c => c != 47 && c != 0
/-- may a byte stand in a target? -/
def okB (c : UInt8) : Bool := decide (33 ≤ c.toNat) && decide (c.toNat ≤ 126) && c != 35
end Gt
end Go.Proofs.YtgfammlmbjmkoaaGreatDoor

/- How a text is cut at a byte, once or wherever it stands, as plain functions: no program in sight. No conditions but those that each law states. -/
namespace Go.Proofs.YtgfammlmbjmkoaaGreatDoor
set_option linter.unusedVariables false
set_option linter.unusedSimpArgs false
namespace Gs
/-- where a byte stands first; the length: nowhere -/
def pos (b : UInt8) : List UInt8 → Nat
  | [] => 0
  | c :: l => if c = b then 0 else pos b l + 1
theorem pos_le (b : UInt8) : ∀ l : List UInt8, pos b l ≤ l.length
  | [] => Nat.le_refl _
  | c :: l => by
    have := pos_le b l
    unfold pos
    split <;> simp <;> omega
theorem pos_here (b : UInt8) (l : List UInt8) : pos b (b :: l) = 0 := by unfold pos; rw [if_pos rfl]
theorem pos_next (b c : UInt8) (l : List UInt8) (h : c ≠ b) : pos b (c :: l) = pos b l + 1 := by conv => lhs; unfold pos; rw [if_neg h]
theorem pos_none {b : UInt8} : ∀ {l : List UInt8}, (∀ c ∈ l, c ≠ b) → pos b l = l.length
  | [], _ => rfl
  | c :: l, h => by rw [pos_next _ _ _ (h c List.mem_cons_self), pos_none fun d hd => h d (List.mem_cons_of_mem _ hd)]; rfl
theorem pos_mid {b : UInt8} : ∀ {l r : List UInt8}, (∀ c ∈ l, c ≠ b) → pos b (l ++ b :: r) = l.length
  | [], r, _ => pos_here b r
  | c :: l, r, h => by rw [List.cons_append, pos_next _ _ _ (h c List.mem_cons_self), pos_mid fun d hd => h d (List.mem_cons_of_mem _ hd)]; rfl
/-- a scan has come to i -/
def PAt (b : UInt8) (l : List UInt8) (i : Nat) : Prop := i ≤ l.length ∧ pos b l = i + pos b (l.drop i)
theorem pAt_start (b : UInt8) (l : List UInt8) : PAt b l 0 := ⟨Nat.zero_le _, by simp⟩
theorem pAt_next {b : UInt8} {l : List UInt8} {i : Nat} (h : PAt b l i) (hi : i < l.length) (hc : l[i] ≠ b) : PAt b l (i + 1) := by
  refine ⟨hi, ?_⟩
  rw [h.2, List.drop_eq_getElem_cons hi, pos_next _ _ _ hc]; omega
theorem pAt_hit {b : UInt8} {l : List UInt8} {i : Nat} (h : PAt b l i) (hi : i < l.length) (hc : l[i] = b) : pos b l = i := by
  rw [h.2, List.drop_eq_getElem_cons hi, hc, pos_here]; omega
theorem pAt_end {b : UInt8} {l : List UInt8} {i : Nat} (h : PAt b l i) (hi : l.length ≤ i) : pos b l = i := by
  rw [h.2, List.drop_eq_nil_of_le hi]; rfl
theorem prefix_one (b c : UInt8) (l : List UInt8) : ([b] : List UInt8).isPrefixOf (c :: l) = (b == c) := by simp [List.isPrefixOf]
theorem index_is (b : UInt8) : ∀ l : List UInt8, Lib.index l [b] = if pos b l < l.length then ((pos b l : Nat) : Int) else -1
  | [] => rfl
  | c :: l => by
    have ih := index_is b l
    rw [Lib.index, prefix_one]
    by_cases h : c = b
    · subst h
      rw [pos_here, beq_self_eq_true, if_pos rfl, if_pos (by simp)]; rfl
    · rw [beq_eq_false_iff_ne.2 (Ne.symm h), if_neg (by decide), ih, pos_next _ _ _ h]
      by_cases hp : pos b l < l.length
      · have h1 : (if pos b l < l.length then ((pos b l : Nat) : Int) else -1) = ((pos b l : Nat) : Int) := if_pos hp
        have h2 : (((pos b l : Nat) : Int) == -1) = false := beq_eq_false_iff_ne.2 (by omega)
        have h3 : pos b l + 1 < (c :: l).length := by rw [List.length_cons]; omega
        rw [h1, h2, if_neg (by decide), if_pos h3]; rfl
      · have h1 : (if pos b l < l.length then ((pos b l : Nat) : Int) else -1) = -1 := if_neg hp
        have h3 : ¬ pos b l + 1 < (c :: l).length := by rw [List.length_cons]; omega
        rw [h1, if_pos (by rfl), if_neg h3]
/-- a text cut at the first such byte -/
theorem cut_is (b : UInt8) (l : List UInt8) : Lib.cut l [b] = (l.take (pos b l), l.drop (pos b l + 1), decide (pos b l < l.length)) := by
  unfold Lib.cut
  rw [index_is]
  have := pos_le b l
  by_cases hp : pos b l < l.length
  · rw [if_pos hp, if_pos (by omega), decide_eq_true hp]; simp
  · rw [if_neg hp, if_neg (by decide), decide_eq_false hp, List.take_of_length_le (by omega), List.drop_eq_nil_of_le (by omega)]
/-- the parts of a text between bytes b, 'cur' its first part so far -/
def parts (b : UInt8) : List UInt8 → List UInt8 → List (List UInt8)
  | cur, [] => [cur]
  | cur, c :: l => if c = b then cur :: parts b [] l else parts b (cur ++ [c]) l
theorem parts_nil (b : UInt8) (cur : List UInt8) : parts b cur [] = [cur] := rfl
theorem parts_here (b : UInt8) (cur l : List UInt8) : parts b cur (b :: l) = cur :: parts b [] l := by conv => lhs; unfold parts; rw [if_pos rfl]
theorem parts_next (b c : UInt8) (cur l : List UInt8) (h : c ≠ b) : parts b cur (c :: l) = parts b (cur ++ [c]) l := by conv => lhs; unfold parts; rw [if_neg h]
theorem parts_cur (z : UInt8) : ∀ (l a b : List UInt8), parts z (a ++ b) l = (match parts z b l with | h :: t => (a ++ h) :: t | [] => [])
  | [], a, b => rfl
  | c :: l, a, b => by
    unfold parts
    by_cases h : c = z
    · rw [if_pos h, if_pos h]
    · rw [if_neg h, if_neg h, List.append_assoc, parts_cur z l a (b ++ [c])]
theorem parts_ne (z : UInt8) : ∀ (l a : List UInt8), parts z a l ≠ []
  | [], a => by unfold parts; simp
  | c :: l, a => by
    unfold parts
    by_cases h : c = z
    · rw [if_pos h]; simp
    · rw [if_neg h]; exact parts_ne z l _
theorem split_is (z : UInt8) : ∀ l : List UInt8, Lib.splitK [z] 0 (Lib.count l [z]) l = parts z [] l
  | [] => by rw [Lib.count_miss (by simp [Lib.index])]; rfl
  | c :: l => by
    have ih := split_is z l
    unfold parts
    by_cases h : c = z
    · subst h
      have hix : Lib.index (c :: l) [c] = 0 := by rw [Lib.index]; simp [List.isPrefixOf]
      rw [if_pos rfl, Lib.count_cons_eq, Nat.add_comm, Lib.splitK, hix, ← ih]
      rfl
    · rw [if_neg h, Lib.count_cons_ne c z l h, List.nil_append, show [c] = [c] ++ [] from rfl, parts_cur, ← ih]
      cases hn : Lib.count l [z] with
      | zero => rfl
      | succ n =>
        obtain ⟨j, hj⟩ := Lib.index_of_count (s := l) (old := [z]) (by omega)
        have hp : ([z] : List UInt8).isPrefixOf (c :: l) = false := by simp [List.isPrefixOf, Ne.symm h]
        have hix : Lib.index (c :: l) [z] = ((j + 1 : Nat) : Int) := by
          rw [Lib.index, hp]
          simp [hj]
        rw [Lib.splitK, Lib.splitK, hix, hj]
        have h1 : ¬ ((((j + 1 : Nat) : Int)) == -1) = true := by intro e; have := beq_iff_eq.1 e; omega
        have h2 : ¬ (((j : Nat) : Int) == -1) = true := by intro e; have := beq_iff_eq.1 e; omega
        rw [if_neg h1, if_neg h2]
        simp only [Int.toNat_natCast, Nat.add_zero, List.take_succ_cons, List.singleton_append, List.length_singleton, List.drop_succ_cons]
theorem splitB_is (z : UInt8) (s : ByteArray) : (Lib.splitB ⟨#[z]⟩ 0 (Lib.countB s ⟨#[z]⟩) s).map (·.data.toList) = parts z [] s.data.toList := by
  rw [Lib.splitB_data]
  exact split_is z _
theorem parts_len (z : UInt8) : ∀ (l a : List UInt8), ∀ p ∈ parts z a l, p.length ≤ a.length + l.length
  | [], a, p, hp => by
    have : p = a := by simpa [parts] using hp
    subst this
    omega
  | c :: l, a, p, hp => by
    unfold parts at hp
    by_cases h : c = z
    · rw [if_pos h] at hp
      rcases List.mem_cons.1 hp with rfl | hp
      · omega
      · have := parts_len z l [] p hp; simp only [List.length_nil, List.length_cons] at *; omega
    · rw [if_neg h] at hp
      have := parts_len z l _ p hp
      simp only [List.length_append, List.length_cons, List.length_nil] at *
      omega
theorem parts_many (z : UInt8) : ∀ (l a : List UInt8), (parts z a l).length ≤ l.length + 1
  | [], a => by simp [parts]
  | c :: l, a => by
    unfold parts
    by_cases h : c = z
    · rw [if_pos h]; have := parts_many z l []; simp; omega
    · rw [if_neg h]; have := parts_many z l (a ++ [c]); simp; omega
theorem parts_one {z : UInt8} : ∀ {l : List UInt8} (a : List UInt8), (∀ c ∈ l, c ≠ z) → parts z a l = [a ++ l]
  | [], a, _ => by simp [parts]
  | c :: l, a, h => by
    rw [parts_next _ _ _ _ (h c List.mem_cons_self), parts_one (a ++ [c]) fun d hd => h d (List.mem_cons_of_mem _ hd), List.append_assoc]; rfl
theorem parts_mid {z : UInt8} : ∀ {l : List UInt8} (a r : List UInt8), (∀ c ∈ l, c ≠ z) → parts z a (l ++ z :: r) = (a ++ l) :: parts z [] r
  | [], a, r, _ => by rw [List.nil_append, parts_here, List.append_nil]
  | c :: l, a, r, h => by
    rw [List.cons_append, parts_next _ _ _ _ (h c List.mem_cons_self), parts_mid (a ++ [c]) r fun d hd => h d (List.mem_cons_of_mem _ hd), List.append_assoc]; rfl
/-- the parts as a scan finds them: those so far, where the part under way began, and where the scan is -/
def SAt (z : UInt8) (l : List UInt8) (L : List (List UInt8)) (a k : Nat) : Prop :=
  L.length ≤ k ∧ ((k ≤ l.length ∧ a ≤ k ∧ L ++ parts z ((l.drop a).take (k - a)) (l.drop k) = parts z [] l) ∨ (k = l.length + 1 ∧ L = parts z [] l))
theorem sAt_start (z : UInt8) (l : List UInt8) : SAt z l [] 0 0 := ⟨Nat.le_refl _, .inl ⟨Nat.zero_le _, Nat.le_refl _, rfl⟩⟩
theorem take_more (l : List UInt8) (a k : Nat) (h : a ≤ k) (hk : k < l.length) : (l.drop a).take (k - a) ++ [l[k]] = (l.drop a).take (k + 1 - a) := by
  rw [show k + 1 - a = (k - a) + 1 by omega, List.take_succ_eq_append_getElem (by rw [List.length_drop]; omega), List.getElem_drop]
  congr 3
  omega
theorem sAt_more {z : UInt8} {l : List UInt8} {L : List (List UInt8)} {a k : Nat} (h : SAt z l L a k) (hk : k < l.length) (hc : l[k] ≠ z) : SAt z l L a (k + 1) := by
  obtain ⟨h1, h2⟩ := h
  rcases h2 with ⟨_, ha, h2⟩ | ⟨h2, _⟩
  · refine ⟨by omega, .inl ⟨by omega, by omega, ?_⟩⟩
    rw [List.drop_eq_getElem_cons hk, parts_next _ _ _ _ hc, take_more l a k ha hk] at h2
    exact h2
  · omega
theorem sAt_cut {z : UInt8} {l : List UInt8} {L : List (List UInt8)} {a k : Nat} (h : SAt z l L a k) (hk : k ≤ l.length) (hc : ∀ h : k < l.length, l[k] = z) : SAt z l (L ++ [(l.drop a).take (k - a)]) (k + 1) (k + 1) := by
  obtain ⟨h1, h2⟩ := h
  rcases h2 with ⟨_, ha, h2⟩ | ⟨h2, _⟩
  · refine ⟨by rw [List.length_append, List.length_singleton]; omega, ?_⟩
    by_cases hlt : k < l.length
    · refine .inl ⟨hlt, Nat.le_refl _, ?_⟩
      rw [List.drop_eq_getElem_cons hlt, hc hlt, parts_here] at h2
      rw [Nat.sub_self, List.take_zero, List.append_assoc]
      exact h2
    · refine .inr ⟨by omega, ?_⟩
      have : k = l.length := by omega
      rw [this, List.drop_length, parts_nil] at h2
      rw [this]
      exact h2
  · omega
theorem sAt_ha {z : UInt8} {l : List UInt8} {L : List (List UInt8)} {a k : Nat} (h : SAt z l L a k) (hk : k ≤ l.length) : a ≤ k := by
  rcases h.2 with ⟨_, h, _⟩ | ⟨h, _⟩
  · exact h
  · omega
theorem sAt_end {z : UInt8} {l : List UInt8} {L : List (List UInt8)} {a k : Nat} (h : SAt z l L a k) (hk : l.length < k) : L = parts z [] l := by
  rcases h.2 with ⟨h, _⟩ | ⟨_, h⟩
  · omega
  · exact h
end Gs
end Go.Proofs.YtgfammlmbjmkoaaGreatDoor

/- Targets read and written, as plain functions: no program in sight. No conditions but those that each law states. -/
namespace Go.Proofs.YtgfammlmbjmkoaaGreatDoor
set_option linter.unusedVariables false
set_option linter.unusedSimpArgs false
namespace Gt
/-- things made of others, as far as none is refused -/
def all? {α β : Type} (f : α → Option β) : List α → Option (List β)
  | [] => some []
  | x :: l => match f x with
    | none => none
    | some y => (all? f l).map (y :: ·)
theorem all_nil {α β : Type} (f : α → Option β) : all? f [] = some [] := rfl
theorem all_none {α β : Type} {f : α → Option β} {x : α} {l : List α} (h : f x = none) : all? f (x :: l) = none := by unfold all?; rw [h]
theorem all_some {α β : Type} {f : α → Option β} {x : α} {l : List α} {y : β} (h : f x = some y) : all? f (x :: l) = (all? f l).map (y :: ·) := by conv => lhs; unfold all?; rw [h]
/-- k of them are made -/
def AAt {α β : Type} (f : α → Option β) (L : List α) (acc : List β) (k : Nat) : Prop := k ≤ L.length ∧ acc.length = k ∧ all? f L = (all? f (L.drop k)).map (acc ++ ·)
theorem aAt_start {α β : Type} (f : α → Option β) (L : List α) : AAt f L [] 0 := ⟨Nat.zero_le _, rfl, by cases h : all? f L <;> simp [h]⟩
theorem aAt_next {α β : Type} {f : α → Option β} {L : List α} {acc : List β} {k : Nat} {y : β} (h : AAt f L acc k) (hk : k < L.length) (hy : f L[k] = some y) : AAt f L (acc ++ [y]) (k + 1) := by
  refine ⟨hk, by simp [h.2.1], ?_⟩
  rw [h.2.2, List.drop_eq_getElem_cons hk, all_some hy]
  cases all? f (L.drop (k + 1)) <;> simp
theorem aAt_bad {α β : Type} {f : α → Option β} {L : List α} {acc : List β} {k : Nat} (h : AAt f L acc k) (hk : k < L.length) (hy : f L[k] = none) : all? f L = none := by
  rw [h.2.2, List.drop_eq_getElem_cons hk, all_none hy]; rfl
theorem aAt_end {α β : Type} {f : α → Option β} {L : List α} {acc : List β} {k : Nat} (h : AAt f L acc k) (hk : L.length ≤ k) : all? f L = some acc := by
  rw [h.2.2, List.drop_eq_nil_of_le hk, all_nil]; simp
theorem all_map {α β γ : Type} {f : α → Option β} {g : γ → α} {h : γ → β} (hg : ∀ x, f (g x) = some (h x)) : ∀ l : List γ, all? f (l.map g) = some (l.map h)
  | [] => rfl
  | x :: l => by rw [List.map_cons, all_some (hg x), all_map hg l]; rfl
theorem all_length {α β : Type} {f : α → Option β} : ∀ {l : List α} {r : List β}, all? f l = some r → r.length = l.length
  | [], r, h => by cases h; rfl
  | x :: l, r, h => by
    cases hx : f x with
    | none => rw [all_none hx] at h; cases h
    | some y =>
      rw [all_some hx] at h
      cases hl : all? f l with
      | none => rw [hl] at h; cases h
      | some t => rw [hl] at h; cases h; simp [all_length hl]
theorem all_each {α β : Type} {f : α → Option β} : ∀ {l : List α} {r : List β}, all? f l = some r → ∀ y ∈ r, ∃ x ∈ l, f x = some y
  | [], r, h, y, hy => by cases h; cases hy
  | x :: l, r, h, y, hy => by
    cases hx : f x with
    | none => rw [all_none hx] at h; cases h
    | some z =>
      rw [all_some hx] at h
      cases hl : all? f l with
      | none => rw [hl] at h; cases h
      | some t =>
        rw [hl] at h; cases h
        rcases List.mem_cons.1 hy with rfl | hy
        · exact ⟨x, List.mem_cons_self, hx⟩
        · obtain ⟨x', h1, h2⟩ := all_each hl y hy
          exact ⟨x', List.mem_cons_of_mem _ h1, h2⟩
def segs (s : List UInt8) : List (List UInt8) := Gs.parts 47 [] ((s.take (Gs.pos 63 s)).drop 1)
def qrys (s : List UInt8) : List (List UInt8) := (Gs.parts 38 [] (s.drop (Gs.pos 63 s + 1))).filter fun l => !l.isEmpty
def seg (l : List UInt8) : Option (List UInt8) := match dec false l with
  | none => none
  | some p => if fine p then some p else none
theorem seg_some {l p : List UInt8} (h : dec false l = some p) : seg l = if fine p then some p else none := by unfold seg; rw [h]
theorem seg_none {l : List UInt8} (h : dec false l = none) : seg l = none := by unfold seg; rw [h]
def pairOf (l : List UInt8) : Option (List UInt8 × List UInt8) := match dec true (l.take (Gs.pos 61 l)) with
  | none => none
  | some k => (dec true (l.drop (Gs.pos 61 l + 1))).map fun v => (k, v)
theorem pairOf_none {l : List UInt8} (h : dec true (l.take (Gs.pos 61 l)) = none) : pairOf l = none := by unfold pairOf; rw [h]
theorem pairOf_some {l k : List UInt8} (h : dec true (l.take (Gs.pos 61 l)) = some k) : pairOf l = (dec true (l.drop (Gs.pos 61 l + 1))).map fun v => (k, v) := by unfold pairOf; rw [h]
def ok (s : List UInt8) : Bool := s.head? == some 47 && s.all okB
def parse (s : List UInt8) : Option (List (List UInt8) × List (List UInt8 × List UInt8)) :=
  if ok s then (match all? seg (segs s) with
    | none => none
    | some P => (all? pairOf (qrys s)).map fun Q => (P, Q)) else none
theorem parse_bad {s : List UInt8} (h : ok s = false) : parse s = none := by unfold parse; rw [h]; rfl
theorem parse_segs {s : List UInt8} (h : ok s = true) (h1 : all? seg (segs s) = none) : parse s = none := by unfold parse; rw [if_pos h, h1]
theorem parse_is {s : List UInt8} {P : List (List UInt8)} (h : ok s = true) (h1 : all? seg (segs s) = some P) : parse s = (all? pairOf (qrys s)).map fun Q => (P, Q) := by unfold parse; rw [if_pos h, h1]
def right (P : List (List UInt8)) : Bool := !P.isEmpty && P.all fine
def ptext (P : List (List UInt8)) : List UInt8 := P.flatMap fun p => 47 :: enc p
def pr (q : List UInt8 × List UInt8) : List UInt8 := enc q.1 ++ 61 :: enc q.2
def qtext : List (List UInt8 × List UInt8) → List UInt8
  | [] => []
  | q :: Q => 63 :: (pr q ++ Q.flatMap fun q => 38 :: pr q)
def text (P : List (List UInt8)) (Q : List (List UInt8 × List UInt8)) : List UInt8 := ptext P ++ qtext Q
theorem plain_ok : ∀ c : Fin 256, plainB c.val = true → okB (UInt8.ofNat c.val) = true ∧ c.val ≠ 47 ∧ c.val ≠ 63 ∧ c.val ≠ 38 ∧ c.val ≠ 61 := by decide +kernel
theorem up_ok : ∀ i : Fin 16, okB (up i.val) = true ∧ up i.val ≠ 47 ∧ up i.val ≠ 63 ∧ up i.val ≠ 38 ∧ up i.val ≠ 61 := by decide +kernel
def goodB (c : UInt8) : Prop := okB c = true ∧ c ≠ 47 ∧ c ≠ 63 ∧ c ≠ 38 ∧ c ≠ 61
theorem enc1_good (c : UInt8) : ∀ d ∈ enc1 c, goodB d := by
  intro d hd
  unfold enc1 at hd
  by_cases h : plainB (c.toNat : Int) = true
  · rw [if_pos h] at hd
    obtain rfl := List.mem_singleton.1 hd
    have h1 := plain_ok ⟨d.toNat, d.toNat_lt⟩ h
    simp only [UInt8.ofNat_toNat] at h1
    exact ⟨h1.1, fun e => h1.2.1 (by rw [e]; rfl), fun e => h1.2.2.1 (by rw [e]; rfl), fun e => h1.2.2.2.1 (by rw [e]; rfl), fun e => h1.2.2.2.2 (by rw [e]; rfl)⟩
  · rw [if_neg h] at hd
    have h2 := c.toNat_lt
    rcases List.mem_cons.1 hd with rfl | hd
    · exact ⟨by decide, by decide, by decide, by decide, by decide⟩
    rcases List.mem_cons.1 hd with rfl | hd
    · exact up_ok ⟨c.toNat / 16, by omega⟩
    · obtain rfl := List.mem_singleton.1 hd
      exact up_ok ⟨c.toNat % 16, by omega⟩
theorem enc_good (l : List UInt8) : ∀ d ∈ enc l, goodB d := by
  intro d hd
  obtain ⟨c, _, h⟩ := List.mem_flatMap.1 hd
  exact enc1_good c d h
theorem pr_mem (q : List UInt8 × List UInt8) : ∀ c ∈ pr q, okB c = true ∧ c ≠ 38 := by
  intro c hc
  rcases List.mem_append.1 hc with h | h
  · have := enc_good _ c h; exact ⟨this.1, this.2.2.2.1⟩
  · rcases List.mem_cons.1 h with rfl | h
    · exact ⟨by decide, by decide⟩
    · have := enc_good _ c h; exact ⟨this.1, this.2.2.2.1⟩
theorem ptext_mem (P : List (List UInt8)) : ∀ c ∈ ptext P, okB c = true ∧ c ≠ 63 := by
  intro c hc
  obtain ⟨p, _, h⟩ := List.mem_flatMap.1 hc
  rcases List.mem_cons.1 h with rfl | h
  · exact ⟨by decide, by decide⟩
  · have := enc_good _ c h; exact ⟨this.1, this.2.2.1⟩
theorem qtext_mem : ∀ (Q : List (List UInt8 × List UInt8)), ∀ c ∈ qtext Q, okB c = true
  | [], c, h => by cases h
  | q :: Q, c, h => by
    rcases List.mem_cons.1 h with rfl | h
    · decide
    rcases List.mem_append.1 h with h | h
    · exact (pr_mem q c h).1
    · obtain ⟨r, _, h⟩ := List.mem_flatMap.1 h
      rcases List.mem_cons.1 h with rfl | h
      · decide
      · exact (pr_mem r c h).1
theorem parts_ptext : ∀ (p : List UInt8) (P : List (List UInt8)), Gs.parts 47 [] (enc p ++ ptext P) = (p :: P).map enc
  | p, [] => by
    show Gs.parts 47 [] (enc p ++ []) = _
    rw [List.append_nil, Gs.parts_one [] fun c hc => (enc_good p c hc).2.1]; rfl
  | p, q :: P => by
    show Gs.parts 47 [] (enc p ++ (47 :: enc q ++ ptext P)) = _
    rw [List.cons_append, Gs.parts_mid [] _ fun c hc => (enc_good p c hc).2.1, parts_ptext q P]; rfl
theorem parts_qtext : ∀ (q : List UInt8 × List UInt8) (Q : List (List UInt8 × List UInt8)), Gs.parts 38 [] (pr q ++ Q.flatMap fun q => 38 :: pr q) = (q :: Q).map pr
  | q, [] => by
    show Gs.parts 38 [] (pr q ++ []) = _
    rw [List.append_nil, Gs.parts_one [] fun c hc => (pr_mem q c hc).2]; rfl
  | q, r :: Q => by
    show Gs.parts 38 [] (pr q ++ (38 :: pr r ++ Q.flatMap fun q => 38 :: pr q)) = _
    rw [List.cons_append, Gs.parts_mid [] _ fun c hc => (pr_mem q c hc).2, parts_qtext r Q]; rfl
theorem pairOf_pr (q : List UInt8 × List UInt8) : pairOf (pr q) = some q := by
  have hp : Gs.pos 61 (pr q) = (enc q.1).length := Gs.pos_mid fun c hc => (enc_good _ c hc).2.2.2.2
  have h1 : (pr q).take (Gs.pos 61 (pr q)) = enc q.1 := by rw [hp]; unfold pr; simp
  have h2 : (pr q).drop (Gs.pos 61 (pr q) + 1) = enc q.2 := by rw [hp]; unfold pr; rw [← List.drop_drop]; simp
  rw [pairOf_some (by rw [h1]; exact dec_enc true _), h2, dec_enc]
  rfl
theorem pos_text {P : List (List UInt8)} {Q : List (List UInt8 × List UInt8)} : Gs.pos 63 (text P Q) = (ptext P).length := by
  unfold text
  cases Q with
  | nil =>
    show Gs.pos 63 (ptext P ++ []) = _
    rw [List.append_nil]
    exact Gs.pos_none fun c hc => (ptext_mem P c hc).2
  | cons q Q => exact Gs.pos_mid fun c hc => (ptext_mem P c hc).2
theorem all_fine : ∀ {P : List (List UInt8)}, P.all fine = true → all? seg (P.map enc) = some P
  | [], _ => rfl
  | p :: P, h => by
    rw [List.all_cons, Bool.and_eq_true] at h
    rw [List.map_cons, all_some (by rw [seg_some (dec_enc false p), if_pos h.1]), all_fine h.2]; rfl
/-- a target's text is that target's -/
theorem parse_text {P : List (List UInt8)} {Q : List (List UInt8 × List UInt8)} (h : right P = true) : parse (text P Q) = some (P, Q) := by
  unfold right at h
  rw [Bool.and_eq_true] at h
  obtain ⟨p, P, rfl⟩ : ∃ p P', P = p :: P' := by
    cases P with
    | nil => simp at h
    | cons p P => exact ⟨p, P, rfl⟩
  have hok : ok (text (p :: P) Q) = true := by
    unfold ok
    rw [Bool.and_eq_true]
    refine ⟨rfl, List.all_eq_true.2 fun c hc => ?_⟩
    rcases List.mem_append.1 hc with h | h
    · exact (ptext_mem _ c h).1
    · exact qtext_mem Q c h
  have hs : segs (text (p :: P) Q) = (p :: P).map enc := by
    unfold segs
    rw [pos_text]
    unfold text
    rw [List.take_left']
    · exact parts_ptext p P
    · rfl
  have hq : qrys (text (p :: P) Q) = Q.map pr := by
    unfold qrys
    rw [pos_text]
    unfold text
    rw [← List.drop_drop, List.drop_left']
    · cases Q with
      | nil => rfl
      | cons q Q =>
        show (Gs.parts 38 [] (pr q ++ Q.flatMap fun q => 38 :: pr q)).filter _ = _
        rw [parts_qtext]
        refine List.filter_eq_self.2 fun l hl => ?_
        obtain ⟨r, _, rfl⟩ := List.mem_map.1 hl
        unfold pr
        simp
    · rfl
  rw [parse_is hok (by rw [hs]; exact all_fine h.2), hq, all_map (h := id) pairOf_pr, List.map_id]
  rfl
/-- of a text that is taken no part is dots, or has a stroke -/
theorem parse_right {s : List UInt8} {P : List (List UInt8)} {Q : List (List UInt8 × List UInt8)} (h : parse s = some (P, Q)) : right P = true := by
  cases hok : ok s with
  | false => rw [parse_bad hok] at h; cases h
  | true =>
    cases hs : all? seg (segs s) with
    | none => rw [parse_segs hok hs] at h; cases h
    | some R =>
      rw [parse_is hok hs] at h
      cases hq : all? pairOf (qrys s) with
      | none => rw [hq] at h; cases h
      | some T =>
        rw [hq] at h
        cases h
        unfold right
        rw [Bool.and_eq_true]
        refine ⟨?_, List.all_eq_true.2 fun p hp => ?_⟩
        · have h1 := all_length hs
          have h2 := Gs.parts_ne 47 ((s.take (Gs.pos 63 s)).drop 1) []
          cases P with
          | nil => exact absurd (List.length_eq_zero_iff.1 (show (segs s).length = 0 by rw [← h1]; rfl)) h2
          | cons _ _ => rfl
        · obtain ⟨x, _, hx⟩ := all_each hs p hp
          unfold seg at hx
          cases hd : dec false x with
          | none => rw [hd] at hx; cases hx
          | some y =>
            rw [hd] at hx
            simp only at hx
            split at hx
            · cases hx; assumption
            · cases hx
end Gt
end Go.Proofs.YtgfammlmbjmkoaaGreatDoor

/- Routes: patterns read and written, what fits them and what they cover, as plain functions: no program in sight. No conditions but those that each law states. -/
namespace Go.Proofs.YtgfammlmbjmkoaaGreatDoor
set_option linter.unusedVariables false
set_option linter.unusedSimpArgs false
namespace Ro
/-- a part: its kind and its text -/
abbrev Pt := Int × List UInt8
/-- a part read -/
def part (s : List UInt8) : Option Pt :=
  if s = [42] then some (2, []) else if s = [42, 42] then some (3, []) else
  match Gt.dec false s with
  | some o => if Gt.enc o = s then some (1, o) else none
  | none => none
theorem part_one : part [42] = some (2, []) := by unfold part; rw [if_pos rfl]
theorem part_rest : part [42, 42] = some (3, []) := by unfold part; rw [if_neg (by decide), if_pos rfl]
theorem part_none {s : List UInt8} (h1 : s ≠ [42]) (h2 : s ≠ [42, 42]) (h : Gt.dec false s = none) : part s = none := by unfold part; rw [if_neg h1, if_neg h2, h]
theorem part_some {s o : List UInt8} (h1 : s ≠ [42]) (h2 : s ≠ [42, 42]) (h : Gt.dec false s = some o) : part s = if Gt.enc o = s then some (1, o) else none := by unfold part; rw [if_neg h1, if_neg h2, h]
/-- a part written -/
def word (p : Pt) : Option (List UInt8) :=
  if p.1 = 1 then some (47 :: Gt.enc p.2) else if p = (2, []) then some [47, 42] else if p = (3, []) then some [47, 42, 42] else none
/-- what a part that was read is -/
theorem part_kinds {s : List UInt8} {p : Pt} (h : part s = some p) : (p = (2, []) ∧ s = [42]) ∨ (p = (3, []) ∧ s = [42, 42]) ∨ (p.1 = 1 ∧ Gt.enc p.2 = s ∧ p.2.length ≤ s.length) := by
  unfold part at h
  by_cases h1 : s = [42]
  · rw [if_pos h1] at h; cases h; exact .inl ⟨rfl, h1⟩
  rw [if_neg h1] at h
  by_cases h2 : s = [42, 42]
  · rw [if_pos h2] at h; cases h; exact .inr (.inl ⟨rfl, h2⟩)
  rw [if_neg h2] at h
  cases hd : Gt.dec false s with
  | none => rw [hd] at h; cases h
  | some o =>
    rw [hd] at h
    simp only at h
    by_cases h3 : Gt.enc o = s
    · rw [if_pos h3] at h; cases h
      exact .inr (.inr ⟨rfl, h3, by have := Gt.enc_length o; rw [h3] at this; exact this.1⟩)
    · rw [if_neg h3] at h; cases h
theorem word_part {s : List UInt8} {p : Pt} (h : part s = some p) : word p = some (47 :: s) := by
  unfold word
  rcases part_kinds h with ⟨rfl, rfl⟩ | ⟨rfl, rfl⟩ | ⟨h1, h2, _⟩
  · rfl
  · rfl
  · rw [if_pos h1, h2]
def right (l : List Pt) : Bool := !l.isEmpty && l.dropLast.all fun p => p.1 != 3
def segs (s : List UInt8) : List (List UInt8) := Gs.parts 47 [] (s.drop 1)
def fine (s : List UInt8) : Bool := decide (s.length ≤ 1024) && (s.head? == some 47)
def parse (s : List UInt8) : Option (List Pt) :=
  if fine s then (match Gt.all? part (segs s) with | none => none | some l => if right l then some l else none) else none
theorem parse_bad {s : List UInt8} (h : fine s = false) : parse s = none := by unfold parse; rw [h]; rfl
theorem parse_none {s : List UInt8} (h1 : Gt.all? part (segs s) = none) : parse s = none := by
  unfold parse; rw [h1]; split <;> rfl
theorem parse_is {s : List UInt8} {l : List Pt} (h : fine s = true) (h1 : Gt.all? part (segs s) = some l) : parse s = if right l then some l else none := by unfold parse; rw [if_pos h, h1]
theorem parse_inv {s : List UInt8} {l : List Pt} (h : parse s = some l) : fine s = true ∧ Gt.all? part (segs s) = some l ∧ right l = true := by
  cases hf : fine s with
  | false => rw [parse_bad hf] at h; cases h
  | true =>
    cases ha : Gt.all? part (segs s) with
    | none => rw [parse_none ha] at h; cases h
    | some r =>
      rw [parse_is hf ha] at h
      cases hr : right r with
      | false => rw [hr] at h; cases h
      | true => rw [hr] at h; cases h; exact ⟨rfl, rfl, hr⟩
def text (l : List Pt) : Option (List UInt8) :=
  if right l then (match Gt.all? word l with | none => none | some ws => if ws.flatten.length ≤ 1024 then some ws.flatten else none) else none
theorem text_bad {l : List Pt} (h : right l = false) : text l = none := by unfold text; rw [h]; rfl
theorem text_none {l : List Pt} (h1 : Gt.all? word l = none) : text l = none := by unfold text; rw [h1]; split <;> rfl
theorem text_is {l : List Pt} {ws : List (List UInt8)} (h : right l = true) (h1 : Gt.all? word l = some ws) : text l = if ws.flatten.length ≤ 1024 then some ws.flatten else none := by unfold text; rw [if_pos h, h1]
/-- what a text's parts are between: the text -/
theorem parts_join (z : UInt8) : ∀ (l cur : List UInt8), ((Gs.parts z cur l).map (z :: ·)).flatten = z :: (cur ++ l)
  | [], cur => by rw [Gs.parts_nil]; simp
  | c :: l, cur => by
    by_cases h : c = z
    · subst h
      rw [Gs.parts_here, List.map_cons, List.flatten_cons, parts_join c l []]; simp
    · rw [Gs.parts_next _ _ _ _ h, parts_join z l (cur ++ [c])]; simp
theorem all_words : ∀ {L : List (List UInt8)} {l : List Pt}, Gt.all? part L = some l → Gt.all? word l = some (L.map (47 :: ·))
  | [], l, h => by cases h; rfl
  | s :: L, l, h => by
    cases hs : part s with
    | none => rw [Gt.all_none hs] at h; cases h
    | some p =>
      rw [Gt.all_some hs] at h
      cases hL : Gt.all? part L with
      | none => rw [hL] at h; cases h
      | some r =>
        rw [hL] at h; cases h
        rw [Gt.all_some (word_part hs), all_words hL]; rfl
/-- the text of a pattern's parts is the pattern -/
theorem text_parse {s : List UInt8} {l : List Pt} (h : parse s = some l) : text l = some s := by
  obtain ⟨hf, ha, hr⟩ := parse_inv h
  have hj : ((segs s).map (47 :: ·)).flatten = s := by
    unfold segs
    rw [parts_join]
    unfold fine at hf
    rw [Bool.and_eq_true] at hf
    cases s with
    | nil => exact absurd hf.2 (by decide)
    | cons c r => have : c = 47 := by simpa using hf.2
                  subst this; rfl
  rw [text_is hr (all_words ha), hj, if_pos]
  unfold fine at hf
  rw [Bool.and_eq_true] at hf
  exact of_decide_eq_true hf.1
theorem parse_ne {s : List UInt8} {l : List Pt} (h : parse s = some l) : l ≠ [] := by
  obtain ⟨_, _, hr⟩ := parse_inv h
  intro e; subst e; exact absurd hr (by decide)
theorem parse_many {s : List UInt8} {l : List Pt} (h : parse s = some l) : l.length ≤ s.length + 1 ∧ l.length ≤ 1025 := by
  obtain ⟨hf, ha, hr⟩ := parse_inv h
  have h1 := Gt.all_length ha
  have h2 := Gs.parts_many 47 (s.drop 1) []
  unfold segs at h1
  rw [List.length_drop] at h2
  unfold fine at hf
  rw [Bool.and_eq_true] at hf
  have := of_decide_eq_true hf.1
  omega
theorem segs_len {s p : List UInt8} (h : p ∈ segs s) : p.length ≤ s.length := by
  have := Gs.parts_len 47 (s.drop 1) [] p h
  rw [List.length_drop] at this
  simp at this; omega
/-- a pattern's parts are of three kinds; texts are no longer than it -/
theorem parse_kinds {s : List UInt8} {l : List Pt} (h : parse s = some l) : ∀ p ∈ l, p = (2, []) ∨ p = (3, []) ∨ (p.1 = 1 ∧ p.2.length ≤ s.length) := by
  obtain ⟨_, ha, _⟩ := parse_inv h
  intro p hp
  obtain ⟨x, hx, hpx⟩ := Gt.all_each ha p hp
  rcases part_kinds hpx with ⟨h1, _⟩ | ⟨h1, _⟩ | ⟨h1, h2, h3⟩
  · exact .inl h1
  · exact .inr (.inl h1)
  · exact .inr (.inr ⟨h1, Nat.le_trans h3 (segs_len hx)⟩)
/-- does a path fit? -/
def fits : List Pt → List (List UInt8) → Bool
  | [], P => P.isEmpty
  | p :: l, P => if p.1 = 3 then true else match P with
    | [] => false
    | x :: P => if p.1 = 1 ∧ p.2 ≠ x then false else fits l P
/-- does one cover another? -/
def covers : List Pt → List Pt → Bool
  | [], o => o.isEmpty
  | p :: l, o => if p.1 = 3 then true else match o with
    | [] => false
    | q :: o => if q.1 = 3 then false else if p.1 = 1 ∧ p ≠ q then false else covers l o
theorem fits_nil (P : List (List UInt8)) : fits [] P = P.isEmpty := rfl
theorem fits_rest {p : Pt} (h : p.1 = 3) (l : List Pt) (P : List (List UInt8)) : fits (p :: l) P = true := by unfold fits; rw [if_pos h]
theorem fits_short {p : Pt} (h : p.1 ≠ 3) (l : List Pt) : fits (p :: l) [] = false := by unfold fits; rw [if_neg h]
theorem fits_next {p : Pt} (h : p.1 ≠ 3) (l : List Pt) (x : List UInt8) (P : List (List UInt8)) : fits (p :: l) (x :: P) = if p.1 = 1 ∧ p.2 ≠ x then false else fits l P := by
  conv => lhs; unfold fits
  rw [if_neg h]
theorem covers_nil (o : List Pt) : covers [] o = o.isEmpty := rfl
theorem covers_rest {p : Pt} (h : p.1 = 3) (l o : List Pt) : covers (p :: l) o = true := by unfold covers; rw [if_pos h]
theorem covers_short {p : Pt} (h : p.1 ≠ 3) (l : List Pt) : covers (p :: l) [] = false := by unfold covers; rw [if_neg h]
theorem covers_next {p : Pt} (h : p.1 ≠ 3) (l : List Pt) (q : Pt) (o : List Pt) : covers (p :: l) (q :: o) = if q.1 = 3 then false else if p.1 = 1 ∧ p ≠ q then false else covers l o := by
  conv => lhs; unfold covers
  rw [if_neg h]
/-- the stand of a scan of a pattern's parts -/
def FAt (l : List Pt) (P : List (List UInt8)) (k : Nat) : Prop := k ≤ l.length ∧ k ≤ P.length ∧ fits l P = fits (l.drop k) (P.drop k)
theorem fAt_start (l : List Pt) (P : List (List UInt8)) : FAt l P 0 := ⟨Nat.zero_le _, Nat.zero_le _, rfl⟩
theorem fAt_rest {l : List Pt} {P : List (List UInt8)} {k : Nat} (h : FAt l P k) (hk : k < l.length) (h3 : l[k].1 = 3) : fits l P = true := by
  rw [h.2.2, List.drop_eq_getElem_cons hk, fits_rest h3]
theorem fAt_short {l : List Pt} {P : List (List UInt8)} {k : Nat} (h : FAt l P k) (hk : k < l.length) (h3 : l[k].1 ≠ 3) (hp : P.length ≤ k) : fits l P = false := by
  rw [h.2.2, List.drop_eq_getElem_cons hk, List.drop_eq_nil_of_le hp, fits_short h3]
theorem fAt_differ {l : List Pt} {P : List (List UInt8)} {k : Nat} (h : FAt l P k) (hk : k < l.length) (h3 : l[k].1 ≠ 3) (hp : k < P.length) (h1 : l[k].1 = 1) (hd : l[k].2 ≠ P[k]) : fits l P = false := by
  rw [h.2.2, List.drop_eq_getElem_cons hk, List.drop_eq_getElem_cons hp, fits_next h3, if_pos ⟨h1, hd⟩]
theorem fAt_next {l : List Pt} {P : List (List UInt8)} {k : Nat} (h : FAt l P k) (hk : k < l.length) (h3 : l[k].1 ≠ 3) (hp : k < P.length) (hd : l[k].1 = 1 → l[k].2 = P[k]) : FAt l P (k + 1) := by
  refine ⟨hk, hp, ?_⟩
  rw [h.2.2, List.drop_eq_getElem_cons hk, List.drop_eq_getElem_cons hp, fits_next h3, if_neg fun e => e.2 (hd e.1)]
theorem fAt_end {l : List Pt} {P : List (List UInt8)} {k : Nat} (h : FAt l P k) (hk : l.length ≤ k) : fits l P = decide (P.length = l.length) := by
  have h1 := h.1
  rw [h.2.2, List.drop_eq_nil_of_le hk, fits_nil, Bool.eq_iff_iff, List.isEmpty_iff, decide_eq_true_iff, List.drop_eq_nil_iff]
  have := h.2.1
  omega
def CAt (l o : List Pt) (k : Nat) : Prop := k ≤ l.length ∧ k ≤ o.length ∧ covers l o = covers (l.drop k) (o.drop k)
theorem cAt_start (l o : List Pt) : CAt l o 0 := ⟨Nat.zero_le _, Nat.zero_le _, rfl⟩
theorem cAt_rest {l o : List Pt} {k : Nat} (h : CAt l o k) (hk : k < l.length) (h3 : l[k].1 = 3) : covers l o = true := by
  rw [h.2.2, List.drop_eq_getElem_cons hk, covers_rest h3]
theorem cAt_short {l o : List Pt} {k : Nat} (h : CAt l o k) (hk : k < l.length) (h3 : l[k].1 ≠ 3) (hp : o.length ≤ k) : covers l o = false := by
  rw [h.2.2, List.drop_eq_getElem_cons hk, List.drop_eq_nil_of_le hp, covers_short h3]
theorem cAt_open {l o : List Pt} {k : Nat} (h : CAt l o k) (hk : k < l.length) (h3 : l[k].1 ≠ 3) (hp : k < o.length) (hd : o[k].1 = 3) : covers l o = false := by
  rw [h.2.2, List.drop_eq_getElem_cons hk, List.drop_eq_getElem_cons hp, covers_next h3, if_pos hd]
theorem cAt_differ {l o : List Pt} {k : Nat} (h : CAt l o k) (hk : k < l.length) (h3 : l[k].1 ≠ 3) (hp : k < o.length) (h1 : l[k].1 = 1) (hd : l[k] ≠ o[k]) : covers l o = false := by
  rw [h.2.2, List.drop_eq_getElem_cons hk, List.drop_eq_getElem_cons hp, covers_next h3]
  by_cases h4 : o[k].1 = 3
  · rw [if_pos h4]
  · rw [if_neg h4, if_pos ⟨h1, hd⟩]
theorem cAt_next {l o : List Pt} {k : Nat} (h : CAt l o k) (hk : k < l.length) (h3 : l[k].1 ≠ 3) (hp : k < o.length) (ho : o[k].1 ≠ 3) (hd : l[k].1 = 1 → l[k] = o[k]) : CAt l o (k + 1) := by
  refine ⟨hk, hp, ?_⟩
  rw [h.2.2, List.drop_eq_getElem_cons hk, List.drop_eq_getElem_cons hp, covers_next h3, if_neg ho, if_neg fun e => e.2 (hd e.1)]
theorem cAt_end {l o : List Pt} {k : Nat} (h : CAt l o k) (hk : l.length ≤ k) : covers l o = decide (o.length = l.length) := by
  have h1 := h.1
  rw [h.2.2, List.drop_eq_nil_of_le hk, covers_nil, Bool.eq_iff_iff, List.isEmpty_iff, decide_eq_true_iff, List.drop_eq_nil_iff]
  have := h.2.1
  omega
theorem right_cons {p q : Pt} {l : List Pt} : right (p :: q :: l) = (p.1 != 3 && right (q :: l)) := by
  unfold right
  simp [List.dropLast]
/-- one covers itself -/
theorem covers_self : ∀ {l : List Pt}, right l = true ∨ l = [] → covers l l = true
  | [], _ => rfl
  | [p], _ => by
    by_cases h : p.1 = 3
    · exact covers_rest h _ _
    · rw [covers_next h, if_neg h, if_neg (by simp)]; rfl
  | p :: q :: l, h => by
    have h : right (p :: q :: l) = true := by rcases h with h | h; exact h; cases h
    rw [right_cons, Bool.and_eq_true] at h
    have h3 : p.1 ≠ 3 := by simpa using h.1
    rw [covers_next h3, if_neg h3, if_neg (by simp)]
    exact covers_self (.inl h.2)
/-- what fits one fits all that cover it -/
theorem fits_covers : ∀ {l o : List Pt} {P : List (List UInt8)}, (right o = true ∨ o = []) → covers l o = true → fits o P = true → fits l P = true
  | [], o, P, hr, hc, hf => by
    rw [covers_nil, List.isEmpty_iff] at hc
    subst hc; exact hf
  | p :: l, o, P, hr, hc, hf => by
    by_cases h3 : p.1 = 3
    · exact fits_rest h3 _ _
    · cases o with
      | nil => rw [covers_short h3] at hc; cases hc
      | cons q o =>
        rw [covers_next h3] at hc
        by_cases hq : q.1 = 3
        · rw [if_pos hq] at hc; cases hc
        rw [if_neg hq] at hc
        by_cases hd : p.1 = 1 ∧ p ≠ q
        · rw [if_pos hd] at hc; cases hc
        rw [if_neg hd] at hc
        cases P with
        | nil => rw [fits_short hq] at hf; cases hf
        | cons x P =>
          rw [fits_next hq] at hf
          by_cases hx : q.1 = 1 ∧ q.2 ≠ x
          · rw [if_pos hx] at hf; cases hf
          rw [if_neg hx] at hf
          have hro : right o = true ∨ o = [] := by
            rcases hr with hr | hr
            · cases o with
              | nil => exact .inr rfl
              | cons r o => rw [right_cons, Bool.and_eq_true] at hr; exact .inl hr.2
            · cases hr
          rw [fits_next h3, if_neg, fits_covers hro hc hf]
          rintro ⟨h1, h2⟩
          have hpq : p = q := Classical.not_not.1 fun e => hd ⟨h1, e⟩
          subst hpq
          exact hx ⟨h1, h2⟩
/-- what covers one that covers another one covers that -/
theorem covers_trans : ∀ {l o r : List Pt}, covers l o = true → covers o r = true → covers l r = true
  | [], o, r, h1, h2 => by
    rw [covers_nil, List.isEmpty_iff] at h1
    subst h1; exact h2
  | p :: l, o, r, h1, h2 => by
    by_cases h3 : p.1 = 3
    · exact covers_rest h3 _ _
    · cases o with
      | nil => rw [covers_short h3] at h1; cases h1
      | cons q o =>
        rw [covers_next h3] at h1
        by_cases hq : q.1 = 3
        · rw [if_pos hq] at h1; cases h1
        rw [if_neg hq] at h1
        by_cases hd : p.1 = 1 ∧ p ≠ q
        · rw [if_pos hd] at h1; cases h1
        rw [if_neg hd] at h1
        cases r with
        | nil => rw [covers_short hq] at h2; cases h2
        | cons x r =>
          rw [covers_next hq] at h2
          by_cases hx : x.1 = 3
          · rw [if_pos hx] at h2; cases h2
          rw [if_neg hx] at h2
          by_cases hd2 : q.1 = 1 ∧ q ≠ x
          · rw [if_pos hd2] at h2; cases h2
          rw [if_neg hd2] at h2
          rw [covers_next h3, if_neg hx, if_neg, covers_trans h1 h2]
          rintro ⟨h4, h5⟩
          have hpq : p = q := Classical.not_not.1 fun e => hd ⟨h4, e⟩
          subst hpq
          exact hd2 ⟨h4, h5⟩
/-- a path with new texts for ones -/
def one (f : List UInt8) (l : List Pt) : List (List UInt8) := (l.filter fun p => p.1 == 1 || p.1 == 2).map fun p => if p.1 = 1 then p.2 else f
def isOpen (l : List Pt) : Bool := l.any fun p => !(p.1 == 1 || p.1 == 2)
def two (f : List UInt8) (l : List Pt) : List (List UInt8) := if isOpen l then one f l ++ [f] else one f l
/-- of a pattern: the kinds of its parts, the rest stands last -/
def good (l : List Pt) : Prop := (∀ p ∈ l, p = (2, []) ∨ p = (3, []) ∨ p.1 = 1) ∧ (right l = true ∨ l = [])
theorem good_of {s : List UInt8} {l : List Pt} (h : parse s = some l) : good l :=
  ⟨fun p hp => (parse_kinds h p hp).imp id (Or.imp id And.left), .inl (parse_inv h).2.2⟩
theorem good_tail {p : Pt} {l : List Pt} (h : good (p :: l)) : good l := by
  refine ⟨fun q hq => h.1 q (List.mem_cons_of_mem _ hq), ?_⟩
  cases l with
  | nil => exact .inr rfl
  | cons q l =>
    rcases h.2 with h | h
    · rw [right_cons, Bool.and_eq_true] at h; exact .inl h.2
    · cases h
theorem good_rest {p : Pt} {l : List Pt} (h : good (p :: l)) (h3 : p.1 = 3) : l = [] := by
  cases l with
  | nil => rfl
  | cons q l =>
    rcases h.2 with h | h
    · rw [right_cons, Bool.and_eq_true] at h; have := h.1; rw [h3] at this; exact absurd this (by decide)
    · cases h
theorem one_rest (f : List UInt8) {p : Pt} (h3 : p.1 = 3) (l : List Pt) : one f (p :: l) = one f l := by
  unfold one; rw [List.filter_cons, h3]; rfl
theorem one_next (f : List UInt8) {p : Pt} (h : p = (2, []) ∨ p = (3, []) ∨ p.1 = 1) (h3 : p.1 ≠ 3) (l : List Pt) : one f (p :: l) = (if p.1 = 1 then p.2 else f) :: one f l := by
  unfold one
  rcases h with rfl | rfl | h
  · rfl
  · exact absurd rfl h3
  · rw [List.filter_cons, h]; simp [h]
theorem open_rest {p : Pt} (h3 : p.1 = 3) (l : List Pt) : isOpen (p :: l) = true := by unfold isOpen; rw [List.any_cons, h3]; rfl
theorem open_next {p : Pt} (h : p = (2, []) ∨ p = (3, []) ∨ p.1 = 1) (h3 : p.1 ≠ 3) (l : List Pt) : isOpen (p :: l) = isOpen l := by
  unfold isOpen
  rcases h with rfl | rfl | h
  · rfl
  · exact absurd rfl h3
  · rw [List.any_cons, h]; rfl
theorem two_next (f : List UInt8) {p : Pt} (h : p = (2, []) ∨ p = (3, []) ∨ p.1 = 1) (h3 : p.1 ≠ 3) (l : List Pt) : two f (p :: l) = (if p.1 = 1 then p.2 else f) :: two f l := by
  unfold two
  rw [open_next h h3, one_next f h h3]
  split <;> rfl
theorem two_rest (f : List UInt8) {p : Pt} (h3 : p.1 = 3) : two f [p] = [f] := by
  unfold two; rw [open_rest h3, one_rest f h3]; rfl
theorem fits_one (f : List UInt8) : ∀ {l : List Pt}, good l → fits l (one f l) = true
  | [], _ => rfl
  | p :: l, h => by
    by_cases h3 : p.1 = 3
    · exact fits_rest h3 _ _
    · rw [one_next f (h.1 p List.mem_cons_self) h3, fits_next h3, if_neg, fits_one f (good_tail h)]
      rintro ⟨h1, h2⟩
      rw [if_pos h1] at h2; exact h2 rfl
theorem fits_two (f : List UInt8) : ∀ {l : List Pt}, good l → fits l (two f l) = true
  | [], _ => rfl
  | p :: l, h => by
    by_cases h3 : p.1 = 3
    · exact fits_rest h3 _ _
    · rw [two_next f (h.1 p List.mem_cons_self) h3, fits_next h3, if_neg, fits_two f (good_tail h)]
      rintro ⟨h1, h2⟩
      rw [if_pos h1] at h2; exact h2 rfl
/-- one that does not cover another one fails a path that fits that -/
theorem covers_paths (f : List UInt8) : ∀ {a b : List Pt}, good a → good b → (∀ p ∈ a, p.1 = 1 → p.2 ≠ f) → fits a (one f b) = true → fits a (two f b) = true → covers a b = true
  | [], b, ha, hb, hf, h1, h2 => by
    cases b with
    | nil => rfl
    | cons q b =>
      by_cases h3 : q.1 = 3
      · have := good_rest hb h3
        subst this
        rw [two_rest f h3, fits_nil] at h2; cases h2
      · rw [one_next f (hb.1 q List.mem_cons_self) h3, fits_nil] at h1; cases h1
  | p :: a, b, ha, hb, hf, h1, h2 => by
    by_cases h3 : p.1 = 3
    · exact covers_rest h3 _ _
    · cases b with
      | nil =>
        have : one f [] = [] := rfl
        rw [this, fits_short h3] at h1; cases h1
      | cons q b =>
        by_cases hq : q.1 = 3
        · have := good_rest hb hq
          subst this
          have : one f [q] = [] := one_rest f hq []
          rw [this, fits_short h3] at h1; cases h1
        · rw [one_next f (hb.1 q List.mem_cons_self) hq, fits_next h3] at h1
          rw [two_next f (hb.1 q List.mem_cons_self) hq, fits_next h3] at h2
          by_cases hx : p.1 = 1 ∧ p.2 ≠ (if q.1 = 1 then q.2 else f)
          · rw [if_pos hx] at h1; cases h1
          · rw [if_neg hx] at h1 h2
            rw [covers_next h3, if_neg hq, if_neg, covers_paths f (good_tail ha) (good_tail hb) (fun r hr => hf r (List.mem_cons_of_mem _ hr)) h1 h2]
            rintro ⟨h4, h5⟩
            have h6 : p.2 = (if q.1 = 1 then q.2 else f) := Classical.not_not.1 fun e => hx ⟨h4, e⟩
            by_cases hq1 : q.1 = 1
            · rw [if_pos hq1] at h6
              exact h5 (Prod.ext (by rw [h4, hq1]) h6)
            · rw [if_neg hq1] at h6
              exact hf p List.mem_cons_self h4 h6
theorem covers_is (f : List UInt8) {a b : List Pt} (ha : good a) (hb : good b) (hf : ∀ p ∈ a, p.1 = 1 → p.2 ≠ f) : covers a b = (fits a (one f b) && fits a (two f b)) := by
  rw [Bool.eq_iff_iff, Bool.and_eq_true]
  exact ⟨fun h => ⟨fits_covers hb.2 h (fits_one f hb), fits_covers hb.2 h (fits_two f hb)⟩, fun h => covers_paths f ha hb hf h.1 h.2⟩
end Ro
end Go.Proofs.YtgfammlmbjmkoaaGreatDoor

/- route: slices of parts; right. -/
namespace Go.Proofs.YtgfammlmbjmkoaaGreatDoor
set_option linter.unusedVariables false
set_option linter.unusedSimpArgs false
open Go.RowKit
set_option maxHeartbeats 2000000
set_option maxRecDepth 100000
/-- a text's value -/
def sv (l : List UInt8) : Value := .string ⟨l.toArray⟩
/-- parts' cells -/
def pts (l : List Ro.Pt) : List Value := l.flatMap fun p => [.int .i64 p.1, sv p.2]
theorem pts_snoc (l : List Ro.Pt) (p : Ro.Pt) : pts (l ++ [p]) = pts l ++ [.int .i64 p.1, sv p.2] := by unfold pts; rw [List.flatMap_append]; simp
theorem pts_length : ∀ l : List Ro.Pt, (pts l).length = l.length * 2
  | [] => rfl
  | p :: l => by
    have := pts_length l
    unfold pts at this ⊢
    rw [List.flatMap_cons, List.length_append, this]
    simp
    omega
/-- a slice of parts -/
def PtS (w : World) (v : Value) (L : List Ro.Pt) : Prop :=
  (∃ p c, v = .slice p 0 c ∧ L = []) ∨ ∃ b off cap, v = .slice (some ⟨b, off, none⟩) L.length cap ∧ L.length ≤ cap ∧ cap ≤ maxLen ∧ ∀ j, j < L.length → w.cell? ⟨b, off + j * 2, none⟩ = some (.int .i64 (L.getD j (0, [])).1) ∧ w.cell? ⟨b, off + j * 2 + 1, none⟩ = some (sv (L.getD j (0, [])).2)
theorem PtS.below {w w' : World} {v : Value} {L : List Ro.Pt} (h : PtS w v L) (k : Below w.heap.size w w') : PtS w' v L := by
  rcases h with h | ⟨b, off, cap, h1, h2, h4, h3⟩
  · exact .inl h
  · exact .inr ⟨b, off, cap, h1, h2, h4, fun j hj => ⟨cell_below k (h3 j hj).1, cell_below k (h3 j hj).2⟩⟩
theorem pts_get : ∀ (L : List Ro.Pt) (j : Nat), j < L.length → (pts L)[j * 2]? = some (.int .i64 (L.getD j (0, [])).1) ∧ (pts L)[j * 2 + 1]? = some (sv (L.getD j (0, [])).2)
  | p :: L, 0, _ => ⟨rfl, rfl⟩
  | p :: L, j + 1, h => by
    have := pts_get L j (by simpa using h)
    have e : pts (p :: L) = .int .i64 p.1 :: sv p.2 :: pts L := rfl
    rw [e, show (j + 1) * 2 = j * 2 + 1 + 1 by omega]
    simpa using this
theorem PtS.of {w : World} {B : Nat} {v : Value} {L : List Ro.Pt} (h : w.ownsRow B 35 2 v L.length (pts L)) : PtS w v L := by
  obtain ⟨hl, h⟩ := h
  rcases h with ⟨rfl, h0⟩ | ⟨g, cap, cur, rfl, _, hg, hc, hm, hs, ht⟩
  · exact .inl ⟨none, 0, rfl, List.length_eq_zero_iff.1 h0⟩
  · refine .inr ⟨g, 0, cap, rfl, hc, hm, fun j hj => ?_⟩
    have hp := pts_get L j hj
    rw [Nat.zero_add, ← ht, List.getElem?_take_of_lt (by omega), List.getElem?_take_of_lt (by omega)] at *
    refine ⟨?_, ?_⟩
    · rw [← hp.1]; simp [World.cell?, hg]
    · rw [← hp.2]; simp [World.cell?, hg]
theorem PtS.slice {w : World} {v : Value} {L : List Ro.Pt} (h : PtS w v L) : ∃ p c, v = .slice p L.length c := by
  rcases h with ⟨p, c, rfl, rfl⟩ | ⟨b, off, cap, rfl, _⟩
  · exact ⟨_, _, rfl⟩
  · exact ⟨_, _, rfl⟩
theorem PtS.cells {w : World} {p : Option Addr} {n c : Nat} {L : List Ro.Pt} (h : PtS w (.slice p n c) L) {k : Nat} (hk : k < L.length) : ∃ b off, p = some ⟨b, off, none⟩ ∧ L.length ≤ c ∧ c ≤ maxLen ∧ b < w.heap.size ∧ ∀ j, j < L.length → w.cell? ⟨b, off + j * 2, none⟩ = some (.int .i64 (L.getD j (0, [])).1) ∧ w.cell? ⟨b, off + j * 2 + 1, none⟩ = some (sv (L.getD j (0, [])).2) := by
  rcases h with ⟨p, c, _, rfl⟩ | ⟨b, off, cap, h1, h2, h4, h3⟩
  · simp at hk
  · cases h1
    exact ⟨b, off, rfl, h2, h4, lt_of_cell (h3 k hk).1, h3⟩
/-- what gives up -/
def rtNo : Ending := .panicked [{ v := errno 360, recovered := false }]
theorem right_at {L : List Ro.Pt} {n : Nat} (hn : L.length = n + 1) : Ro.right L = (L.take n).all fun p => p.1 != 3 := by
  unfold Ro.right
  have h : L.isEmpty = false := by cases L; simp at hn; rfl
  rw [h, List.dropLast_eq_take, hn]
  simp
theorem take_gd {α : Type} (L : List α) (d : α) (k : Nat) (h : k < L.length) : L.take (k + 1) = L.take k ++ [L.getD k d] := by
  rw [List.take_succ_eq_append_getElem h, List.getD_eq_getElem?_getD, List.getElem?_eq_getElem h]; rfl
theorem rt_right (v : Value) (L : List Ro.Pt) (w : World) (hv : PtS w v L) (hL : L.length ≤ 100000) :
    Calls Tryz.prog 40 #[v] w fun e w' => e = (if Ro.right L then .returned (.tuple #[]) else rtNo) ∧ Below w.heap.size w w' := by
  rcases hv with ⟨p, c, rfl, rfl⟩ | ⟨b, off, cap, rfl, hcap, hcm, hc⟩
  · have e : Ro.right [] = false := rfl
    rw [e]
    go_enter Tryz.func40, Tryz.ntmps40
    go_wp2_with fail
    refine (rt_must_no 360 _).mono ?_
    rintro e w' ⟨rfl, rfl⟩
    exact ⟨rfl, rfl, Below.refl _ _⟩
  · rcases Nat.eq_zero_or_pos L.length with h0 | h0
    · obtain rfl := List.length_eq_zero_iff.1 h0
      have e : Ro.right [] = false := rfl
      rw [e]
      go_enter Tryz.func40, Tryz.ntmps40
      go_wp2_with fail
      refine (rt_must_no 360 _).mono ?_
      rintro e w' ⟨rfl, rfl⟩
      exact ⟨rfl, rfl, Below.refl _ _⟩
    · obtain ⟨n, hn⟩ : ∃ n, L.length = n + 1 := ⟨L.length - 1, by omega⟩
      have hb : b < w.heap.size := lt_of_cell (hc 0 h0).1
      rw [right_at hn]
      obtain ⟨R, hR⟩ : ∃ R, ((L.take n).all fun p => p.1 != 3) = R := ⟨_, rfl⟩
      rw [hR]
      rw [hn] at hc hcap hL h0 ⊢
      have HC := Lib.hid hc
      have HR := Lib.hid hR
      have HN := Lib.hid hn
      unfold maxLen at hcm
      clear hc hR hn
      have h1 : (0 : Int) < ((n + 1 : Nat) : Int) := by omega
      have h2 : ((n + 1 : Nat) : Int) - 1 = (n : Int) := by omega
      go_enter Tryz.func40, Tryz.ntmps40
      go_wp2_with fail
      refine (rt_must 360 _).mono ?_
      rintro e w1 ⟨rfl, hw1⟩
      subst w1
      go_wp2_with fail
      go_loopw [17] (fun i wr => ∃ k : Nat, k ≤ n ∧ i = .int .i64 k ∧ Below w.heap.size w wr ∧ ((L.take k).all fun p => p.1 != 3) = true) (fun i _ => n - (intOf i).toNat)
      case atStart => exact ⟨0, Nat.zero_le _, rfl, Below.refl _ _, rfl⟩
      case round =>
        obtain ⟨k, hk, rfl, hbl, hal⟩ := hrel
        have HBL := Lib.hid hbl
        have HAL := Lib.hid hal
        by_cases hlt : k < n
        · have x0 := (hbl.cell (p := ⟨b, off + k * 2, none⟩) hb).trans (HC.out k (by omega)).1
          have x1 := (hbl.cell (p := ⟨b, off + k * 2 + 1, none⟩) hb).trans (HC.out k (by omega)).2
          have HTK := Lib.hid (take_gd L (0, []) k (by have := HN.out; omega))
          have HMEM := Lib.hid (fun (m : Nat) (hm : k < m) => (by
            rw [List.getD_eq_getElem?_getD, List.getElem?_eq_getElem (show k < L.length by have := HN.out; omega)]
            exact List.mem_take_iff_getElem.2 ⟨k, by have := HN.out; omega, rfl⟩ : L.getD k (0, []) ∈ L.take m))
          obtain ⟨⟨kd, tl⟩, hq⟩ : ∃ q, L.getD k (0, []) = q := ⟨_, rfl⟩
          rw [hq] at x0 x1 HTK HMEM
          simp only at x0 x1
          obtain ⟨tb, htb⟩ : ∃ z, sv tl = z := ⟨_, rfl⟩
          rw [htb] at x1
          obtain ⟨tb', rfl⟩ : ∃ z, tb = .string z := ⟨_, htb.symm⟩
          have HB2 := Lib.hid (hbl.alloc hbl.size (.cells #[.int .i64 kd, .string tb'] 35))
          clear hbl hal hq htb
          by_cases h3 : kd = 3
          · have hne : ((kd : Int) != 3) = false := by rw [h3]; rfl
            have HNO := Lib.hid (show R = false by
              rw [← HR.out, List.all_eq_false]
              exact ⟨_, HMEM.out n hlt, by rw [hne]; decide⟩)
            clear h3
            go_wp2_with fail
            refine (rt_must_no 360 _).mono ?_
            rintro e w2 ⟨rfl, hw2⟩
            subst w2
            exact ⟨rfl, by rw [HNO.out]; rfl, HB2.out⟩
          · have hne : ((kd : Int) != 3) = true := bne_iff_ne.2 h3
            have HNX := Lib.hid (show ((L.take (k + 1)).all fun p => p.1 != 3) = true by rw [HTK.out, List.all_append, HAL.out, List.all_cons, hne]; rfl)
            clear h3
            go_wp2_with fail
            refine (rt_must 360 _).mono ?_
            rintro e w2 ⟨rfl, hw2⟩
            subst w2
            go_wp2
            go_roundw
            case rel => exact ⟨k + 1, hlt, by go_num, HB2.out, HNX.out⟩
            case measure => simp [intOf]; omega
        · obtain rfl : k = n := by omega
          have HYES := Lib.hid (show R = true by rw [← HR.out]; exact hal)
          clear hal
          go_wp2
          go_end0
          first | exact ⟨by rw [HYES.out]; rfl, HBL.out⟩ | exact ⟨rfl, HBL.out⟩
end Go.Proofs.YtgfammlmbjmkoaaGreatDoor

/- route: does a path fit, does a pattern cover another one. -/

namespace Go.Proofs.YtgfammlmbjmkoaaGreatDoor
set_option linter.unusedVariables false
set_option linter.unusedSimpArgs false
open Go.RowKit
set_option maxHeartbeats 4000000
set_option maxRecDepth 100000
/-- a slice of texts that is read -/
def XS (w : World) (v : Value) (L : List (List UInt8)) : Prop :=
  (∃ p c, v = .slice p 0 c ∧ L = []) ∨ ∃ b off cap, v = .slice (some ⟨b, off, none⟩) L.length cap ∧ ∀ j, j < L.length → w.cell? ⟨b, off + j, none⟩ = some (sv (L.getD j []))
theorem XS.below {w w' : World} {v : Value} {L : List (List UInt8)} (h : XS w v L) (k : Below w.heap.size w w') : XS w' v L := by
  rcases h with h | ⟨b, off, cap, h1, h3⟩
  · exact .inl h
  · exact .inr ⟨b, off, cap, h1, fun j hj => cell_below k (h3 j hj)⟩
theorem XS.slice {w : World} {v : Value} {L : List (List UInt8)} (h : XS w v L) : ∃ p c, v = .slice p L.length c := by
  rcases h with ⟨p, c, rfl, rfl⟩ | ⟨b, off, cap, rfl, _⟩
  · exact ⟨_, _, rfl⟩
  · exact ⟨_, _, rfl⟩
theorem XS.cells {w : World} {p : Option Addr} {n c : Nat} {L : List (List UInt8)} (h : XS w (.slice p n c) L) {k : Nat} (hk : k < L.length) : ∃ b off, p = some ⟨b, off, none⟩ ∧ ∀ j, j < L.length → w.cell? ⟨b, off + j, none⟩ = some (sv (L.getD j [])) := by
  rcases h with ⟨p, c, _, rfl⟩ | ⟨b, off, cap, h1, h3⟩
  · simp at hk
  · refine ⟨b, off, by injection h1, h3⟩
theorem getD_is {α : Type} (L : List α) (d : α) (k : Nat) (h : k < L.length) : L.getD k d = L[k] := by
  rw [List.getD_eq_getElem?_getD, List.getElem?_eq_getElem h]; rfl
theorem sv_is (l : List UInt8) : ∃ b : ByteArray, sv l = .string b ∧ b.data.toList = l := ⟨_, rfl, rfl⟩
theorem rt_fits (v u : Value) (L : List Ro.Pt) (P : List (List UInt8)) (w : World) (hv : PtS w v L) (hu : XS w u P) (hL : L.length ≤ 100000) (hP : P.length ≤ 100000) :
    Calls Tryz.prog 46 #[v, u] w fun e w' => e = .returned (.bool (Ro.fits L P)) ∧ Below w.heap.size w w' := by
  obtain ⟨p1, c1, rfl⟩ := hv.slice
  obtain ⟨p2, c2, rfl⟩ := hu.slice
  obtain ⟨n, hn⟩ : ∃ n, L.length = n := ⟨_, rfl⟩
  obtain ⟨m, hm⟩ : ∃ n, P.length = n := ⟨_, rfl⟩
  obtain ⟨R, hR⟩ : ∃ R, Ro.fits L P = R := ⟨_, rfl⟩
  rw [hn] at hv hL ⊢
  rw [hm] at hu hP ⊢
  rw [hR]
  have HV := Lib.hid hv
  have HU := Lib.hid hu
  have HN := Lib.hid hn
  have HM := Lib.hid hm
  have HR := Lib.hid hR
  clear hv hu hn hm hR
  go_enter Tryz.func46, Tryz.ntmps46
  go_wp2_with fail
  go_loopw [9] (fun i wr => ∃ k : Nat, k ≤ n ∧ i = .int .i64 k ∧ Below w.heap.size w wr ∧ Ro.FAt L P k) (fun i _ => n - (intOf i).toNat)
  case atStart => exact ⟨0, Nat.zero_le _, rfl, Below.refl _ _, Ro.fAt_start _ _⟩
  case round =>
    obtain ⟨k, hk, rfl, hbl, hat⟩ := hrel
    have HBL := Lib.hid hbl
    have HAT := Lib.hid hat
    have HKM := Lib.hid (show k ≤ m by rw [← HM.out]; exact hat.2.1)
    clear hat
    by_cases hlt : k < n
    · have HLK := Lib.hid (show k < L.length by rw [HN.out]; exact hlt)
      obtain ⟨b, off, rfl, _, _, hb, hc⟩ := HV.out.cells HLK.out
      have x0 := (hbl.cell (p := ⟨b, off + k * 2, none⟩) hb).trans (hc k HLK.out).1
      have x1 := (hbl.cell (p := ⟨b, off + k * 2 + 1, none⟩) hb).trans (hc k HLK.out).2
      have HG := Lib.hid (getD_is L (0, []) k HLK.out)
      obtain ⟨⟨kd, tl⟩, hq⟩ : ∃ q, L.getD k (0, []) = q := ⟨_, rfl⟩
      rw [hq] at x0 x1 HG
      simp only at x0 x1
      obtain ⟨tb, htb, htl⟩ := sv_is tl
      rw [htb] at x1
      have HTL := Lib.hid htl
      have HB2 := Lib.hid (hbl.alloc hbl.size (.cells #[.int .i64 kd, .string tb] 35))
      clear hbl hc hb hq htb htl
      by_cases h3 : kd = 3
      · subst h3
        have HYES := Lib.hid (show R = true by rw [← HR.out]; exact Ro.fAt_rest HAT.out HLK.out (by rw [← HG.out]))
        go_wp2_with fail
        go_ret
        exact ⟨by rw [HYES.out]; rfl, HB2.out⟩
      · have hne : ((kd : Int) == 3) = false := beq_eq_false_iff_ne.2 h3
        have HK3 := Lib.hid (show (L[k]'HLK.out).1 ≠ 3 by rw [← HG.out]; exact h3)
        clear h3
        by_cases hkm : k = m
        · have HNO := Lib.hid (show R = false by rw [← HR.out]; exact Ro.fAt_short HAT.out HLK.out HK3.out (by rw [HM.out]; omega))
          subst hkm
          go_wp2_with fail
          go_ret
          exact ⟨by rw [HNO.out]; rfl, HB2.out⟩
        · have HPM := Lib.hid (show k < P.length by rw [HM.out]; have := HKM.out; omega)
          have hmi : ((k : Int) == (m : Int)) = false := beq_eq_false_iff_ne.2 (by omega)
          have hkm1 : (k : Int) < (m : Int) := by have := HKM.out; omega
          obtain ⟨g, o, rfl, hcu⟩ := HU.out.cells HPM.out
          have hg := lt_of_cell (hcu k HPM.out)
          have y0 := (HB2.out.cell (p := ⟨g, o + k, none⟩) hg).trans (hcu k HPM.out)
          have HGU := Lib.hid (getD_is P [] k HPM.out)
          obtain ⟨pl, hpl⟩ : ∃ q, P.getD k [] = q := ⟨_, rfl⟩
          rw [hpl] at y0 HGU
          obtain ⟨pb, hpb, hpd⟩ := sv_is pl
          rw [hpb] at y0
          have HPD := Lib.hid hpd
          clear hcu hg hpl hpb hpd hkm
          by_cases h1 : kd = 1
          · subst h1
            obtain ⟨d, hd⟩ : ∃ d, (tl == pl) = d := ⟨_, rfl⟩
            have hq : (tb.toList == pb.toList) = d := by rw [← hd, ByteArray.toList_eq, ByteArray.toList_eq, HTL.out, HPD.out]
            have hq2 : (tb.toList != pb.toList) = !d := by unfold bne; rw [hq]
            have HD := Lib.hid hd
            clear hd
            cases d with
            | false =>
              have HNO := Lib.hid (show R = false by
                rw [← HR.out]
                exact Ro.fAt_differ HAT.out HLK.out HK3.out HPM.out (by rw [← HG.out]) (by rw [← HG.out, ← HGU.out]; exact beq_eq_false_iff_ne.1 HD.out))
              go_wp2_with fail
              go_quiet (fail)
              go_wp2_with fail
              go_ret
              exact ⟨by rw [HNO.out]; rfl, HB2.out.trans ⟨rfl, rfl, rfl, Nat.le_refl _, fun _ _ => rfl⟩⟩
            | true =>
              have HNX := Lib.hid (Ro.fAt_next HAT.out HLK.out HK3.out HPM.out (fun _ => by rw [← HG.out, ← HGU.out]; exact beq_iff_eq.1 HD.out))
              go_wp2_with fail
              go_quiet (fail)
              go_wp2_with fail
              go_roundw
              case rel => exact ⟨k + 1, hlt, by go_num, HB2.out.trans ⟨rfl, rfl, rfl, Nat.le_refl _, fun _ _ => rfl⟩, HNX.out⟩
              case measure => simp [intOf]; omega
          · have hn1 : ((kd : Int) == 1) = false := beq_eq_false_iff_ne.2 h1
            have HNX := Lib.hid (Ro.fAt_next HAT.out HLK.out HK3.out HPM.out (fun h => absurd h (by rw [← HG.out]; exact h1)))
            clear h1
            go_wp2_with fail
            go_quiet (fail)
            go_wp2_with fail
            go_roundw
            case rel => exact ⟨k + 1, hlt, by go_num, HB2.out.trans ⟨rfl, rfl, rfl, Nat.le_refl _, fun _ _ => rfl⟩, HNX.out⟩
            case measure => simp [intOf]; omega
    · obtain rfl : k = n := by omega
      have HE := Lib.hid (Ro.fAt_end HAT.out (by rw [HN.out]; exact Nat.le_refl _))
      rw [HR.out, HN.out, HM.out] at HE
      go_wp2_with fail
      go_ret
      exact ⟨by rw [HE.out]; exact ret_bool (by rw [Bool.eq_iff_iff, beq_iff_eq, decide_eq_true_iff]; omega), HBL.out⟩
theorem part_in (a b : Int) (x y : ByteArray) (W : World) : (Op.equalIn 10000 35 (.agg #[.int .i64 a, .string x]) (.agg #[.int .i64 b, .string y])).run Tryz.prog W = .ok (decide (((a, x.data.toList) : Ro.Pt) = (b, y.data.toList))) W := by
  have u3 := Tryz.underlying33
  have u9 := Tryz.underlying9
  have hS : Tryz.prog.underlying 35 = some (.struct (Tryz.prog.fieldsOf 35)) := by kernel_rfl
  have hp : Tryz.prog.stoodInHeld 35 = false := by kernel_rfl
  rw [show (10000 : Nat) = 9999 + 1 from rfl, run_equalIn_agg W 9999 35 _ _ hS hp]
  simp only [Program.fieldsOf, Tryz.underlying35]
  go_simp
  by_cases h1 : a = b <;> by_cases h2 : x.data = y.data <;> simp [h1, h2, ByteArray.toList_eq]
theorem part_ne (a b : Int) (x y : ByteArray) : ∀ W : World, (binOp .neq 35 (.agg #[.int .i64 a, .string x]) (.agg #[.int .i64 b, .string y])).run Tryz.prog W = .ok (.bool (!decide (((a, x.data.toList) : Ro.Pt) = (b, y.data.toList)))) W := by
  intro W
  rw [run_neq_struct, part_in]
  rfl
theorem part_eq (a b : Int) (x y : ByteArray) : ∀ W : World, (binOp .eql 35 (.agg #[.int .i64 a, .string x]) (.agg #[.int .i64 b, .string y])).run Tryz.prog W = .ok (.bool (decide (((a, x.data.toList) : Ro.Pt) = (b, y.data.toList)))) W := by
  intro W
  rw [run_eql_struct, part_in]
  rfl
theorem rt_covers (v u : Value) (L P : List Ro.Pt) (w : World) (hv : PtS w v L) (hu : PtS w u P) (hL : L.length ≤ 100000) (hP : P.length ≤ 100000) :
    Calls Tryz.prog 48 #[v, u] w fun e w' => e = .returned (.bool (Ro.covers L P)) ∧ Below w.heap.size w w' := by
  obtain ⟨p1, c1, rfl⟩ := hv.slice
  obtain ⟨p2, c2, rfl⟩ := hu.slice
  obtain ⟨n, hn⟩ : ∃ n, L.length = n := ⟨_, rfl⟩
  obtain ⟨m, hm⟩ : ∃ n, P.length = n := ⟨_, rfl⟩
  obtain ⟨R, hR⟩ : ∃ R, Ro.covers L P = R := ⟨_, rfl⟩
  rw [hn] at hv hL ⊢
  rw [hm] at hu hP ⊢
  rw [hR]
  have HV := Lib.hid hv
  have HU := Lib.hid hu
  have HN := Lib.hid hn
  have HM := Lib.hid hm
  have HR := Lib.hid hR
  clear hv hu hn hm hR
  go_enter Tryz.func48, Tryz.ntmps48
  go_wp2_with fail
  go_loopw [9] (fun i wr => ∃ k : Nat, k ≤ n ∧ i = .int .i64 k ∧ Below w.heap.size w wr ∧ Ro.CAt L P k) (fun i _ => n - (intOf i).toNat)
  case atStart => exact ⟨0, Nat.zero_le _, rfl, Below.refl _ _, Ro.cAt_start _ _⟩
  case round =>
    obtain ⟨k, hk, rfl, hbl, hat⟩ := hrel
    have HBL := Lib.hid hbl
    have HAT := Lib.hid hat
    have HKM := Lib.hid (show k ≤ m by rw [← HM.out]; exact hat.2.1)
    clear hat
    by_cases hlt : k < n
    · have HLK := Lib.hid (show k < L.length by rw [HN.out]; exact hlt)
      obtain ⟨b, off, rfl, _, _, hb, hc⟩ := HV.out.cells HLK.out
      have x0 := (hbl.cell (p := ⟨b, off + k * 2, none⟩) hb).trans (hc k HLK.out).1
      have x1 := (hbl.cell (p := ⟨b, off + k * 2 + 1, none⟩) hb).trans (hc k HLK.out).2
      have HG := Lib.hid (getD_is L (0, []) k HLK.out)
      obtain ⟨⟨kd, tl⟩, hq⟩ : ∃ q, L.getD k (0, []) = q := ⟨_, rfl⟩
      rw [hq] at x0 x1 HG
      simp only at x0 x1
      obtain ⟨tb, htb, htl⟩ := sv_is tl
      rw [htb] at x1
      have HTL := Lib.hid htl
      have HB2 := Lib.hid (hbl.alloc hbl.size (.cells #[.int .i64 kd, .string tb] 35))
      clear hbl hc hb hq htb htl
      by_cases h3 : kd = 3
      · subst h3
        have HYES := Lib.hid (show R = true by rw [← HR.out]; exact Ro.cAt_rest HAT.out HLK.out (by rw [← HG.out]))
        go_wp2_with fail
        go_ret
        exact ⟨by rw [HYES.out]; rfl, HB2.out⟩
      · have hne : ((kd : Int) == 3) = false := beq_eq_false_iff_ne.2 h3
        have HK3 := Lib.hid (show (L[k]'HLK.out).1 ≠ 3 by rw [← HG.out]; exact h3)
        clear h3
        by_cases hkm : k = m
        · have HNO := Lib.hid (show R = false by rw [← HR.out]; exact Ro.cAt_short HAT.out HLK.out HK3.out (by rw [HM.out]; omega))
          subst hkm
          go_wp2_with fail
          go_ret
          exact ⟨by rw [HNO.out]; rfl, HB2.out⟩
        · have HPM := Lib.hid (show k < P.length by rw [HM.out]; have := HKM.out; omega)
          have hmi : ((k : Int) == (m : Int)) = false := beq_eq_false_iff_ne.2 (by omega)
          have hkm1 : (k : Int) < (m : Int) := by have := HKM.out; omega
          obtain ⟨g, o, rfl, _, _, hg, hcu⟩ := HU.out.cells HPM.out
          have y0 := (HB2.out.cell (p := ⟨g, o + k * 2, none⟩) hg).trans (hcu k HPM.out).1
          have y1 := (HB2.out.cell (p := ⟨g, o + k * 2 + 1, none⟩) hg).trans (hcu k HPM.out).2
          have HGU := Lib.hid (getD_is P (0, []) k HPM.out)
          obtain ⟨⟨pd, pl⟩, hpl⟩ : ∃ q, P.getD k (0, []) = q := ⟨_, rfl⟩
          rw [hpl] at y0 y1 HGU
          simp only at y0 y1
          obtain ⟨pb, hpb, hpd⟩ := sv_is pl
          rw [hpb] at y1
          have HPD := Lib.hid hpd
          clear hcu hg hpl hpb hpd hkm
          by_cases h4 : pd = 3
          · subst h4
            have HNO := Lib.hid (show R = false by
              rw [← HR.out]
              exact Ro.cAt_open HAT.out HLK.out HK3.out HPM.out (by rw [← HGU.out]))
            go_wp2_with fail
            go_ret
            exact ⟨by rw [HNO.out]; rfl, HB2.out⟩
          · have hn4 : ((pd : Int) == 3) = false := beq_eq_false_iff_ne.2 h4
            have HP3 := Lib.hid (show (P[k]'HPM.out).1 ≠ 3 by rw [← HGU.out]; exact h4)
            clear h4
            by_cases h1 : kd = 1
            · subst h1
              obtain ⟨d, hd⟩ : ∃ d, decide (((1, tl) : Ro.Pt) = (pd, pl)) = d := ⟨_, rfl⟩
              have hq := part_ne 1 pd tb pb
              rw [HTL.out, HPD.out, hd] at hq
              have HD := Lib.hid hd
              clear hd
              cases d with
              | false =>
                have HNO := Lib.hid (show R = false by
                  rw [← HR.out]
                  exact Ro.cAt_differ HAT.out HLK.out HK3.out HPM.out (by rw [← HG.out]) (by rw [← HG.out, ← HGU.out]; exact of_decide_eq_false HD.out))
                go_wp2_with fail
                go_quiet (fail)
                go_wp2_with fail
                go_ret
                exact ⟨by rw [HNO.out]; rfl, HB2.out.trans ⟨rfl, rfl, rfl, Nat.le_refl _, fun _ _ => rfl⟩⟩
              | true =>
                have HNX := Lib.hid (Ro.cAt_next HAT.out HLK.out HK3.out HPM.out HP3.out (fun _ => by rw [← HG.out, ← HGU.out]; exact of_decide_eq_true HD.out))
                go_wp2_with fail
                go_quiet (fail)
                go_wp2_with fail
                go_roundw
                case rel => exact ⟨k + 1, hlt, by go_num, HB2.out.trans ⟨rfl, rfl, rfl, Nat.le_refl _, fun _ _ => rfl⟩, HNX.out⟩
                case measure => simp [intOf]; omega
            · have hn1 : ((kd : Int) == 1) = false := beq_eq_false_iff_ne.2 h1
              have HNX := Lib.hid (Ro.cAt_next HAT.out HLK.out HK3.out HPM.out HP3.out (fun h => absurd h (by rw [← HG.out]; exact h1)))
              clear h1
              go_wp2_with fail
              go_quiet (fail)
              go_wp2_with fail
              go_roundw
              case rel => exact ⟨k + 1, hlt, by go_num, HB2.out.trans ⟨rfl, rfl, rfl, Nat.le_refl _, fun _ _ => rfl⟩, HNX.out⟩
              case measure => simp [intOf]; omega
    · obtain rfl : k = n := by omega
      have HE := Lib.hid (Ro.cAt_end HAT.out (by rw [HN.out]; exact Nat.le_refl _))
      rw [HR.out, HN.out, HM.out] at HE
      go_wp2_with fail
      go_ret
      exact ⟨by rw [HE.out]; exact ret_bool (by rw [Bool.eq_iff_iff, beq_iff_eq, decide_eq_true_iff]; omega), HBL.out⟩
end Go.Proofs.YtgfammlmbjmkoaaGreatDoor

/- The sums, products and their like of layer 1 (decimal), the program's and the reference's, compute the plain functions of the text Dp. Each number is one of 64 bits. -/
namespace Go.Proofs.YtgfammlmbjmkoaaGreatDoor
set_option linter.unusedVariables false
set_option linter.unusedSimpArgs false
open Go.RowKit

theorem dec_add (a b : Int) (w : World) (ha : Dp.U a) (hb : Dp.U b) :
    Calls Tryz.prog 127 #[.int .u64 a, .int .u64 b] w fun e w' => e = .returned (.tuple #[.int .u64 (Dp.addN a b), .int .i64 (Dp.addE a b)]) ∧ w = w' := by
  go_enter Tryz.func127, Tryz.ntmps127
  go_wp2
  all_goals go_ret2
  all_goals (refine ⟨ret_pair ?_ ?_, rfl⟩ <;> simp only [Dp.U, IntKind.wrap_u64, Dp.addN, Dp.addE] at * <;> split <;> omega)
theorem mul_test {a b : Int} (ha : Dp.U a) (hb : Dp.U b) (h0 : a ≠ 0) : (IntKind.u64.wrap ((IntKind.u64.wrap (a * b)).tdiv a) != b) = !decide (a * b < 18446744073709551616) := by
  have h := Dp.mul_div ha hb h0
  have hp : 0 ≤ a * b := Int.mul_nonneg ha.1 hb.1
  unfold Dp.U at ha hb
  have hm : 0 ≤ (a * b) % 18446744073709551616 ∧ (a * b) % 18446744073709551616 < 18446744073709551616 := by omega
  have e1 : IntKind.u64.wrap ((IntKind.u64.wrap (a * b)).tdiv a) = ((a * b) % 18446744073709551616) / a := by
    rw [IntKind.wrap_u64, IntKind.wrap_u64, Int.tdiv_eq_ediv_of_nonneg hm.1]
    have h1 : 0 ≤ ((a * b) % 18446744073709551616) / a := Int.ediv_nonneg hm.1 ha.1
    have h2 : ((a * b) % 18446744073709551616) / a ≤ (a * b) % 18446744073709551616 := Int.ediv_le_self _ hm.1
    omega
  rw [e1]
  by_cases hc : a * b < 18446744073709551616
  · rw [decide_eq_true hc]
    have := h.2 hc
    simp [this]
  · rw [decide_eq_false hc]
    have : ¬ _ := fun x => hc (h.1 x)
    simpa using this
theorem dec_mul (a b : Int) (w : World) (ha : Dp.U a) (hb : Dp.U b) :
    Calls Tryz.prog 126 #[.int .u64 a, .int .u64 b] w fun e w' => e = .returned (.tuple #[.int .u64 (Dp.mulN a b), .int .i64 (Dp.mulE a b)]) ∧ w = w' := by
  have hp : 0 ≤ a * b := Int.mul_nonneg ha.1 hb.1
  by_cases h0 : a = 0
  · subst h0
    go_enter Tryz.func126, Tryz.ntmps126
    go_wp2
    go_ret2
    refine ⟨ret_pair ?_ ?_, rfl⟩ <;> simp [Dp.mulN, Dp.mulE, IntKind.wrap_u64]
  · have h1 : (a != 0) = true := bne_iff_ne.2 h0
    by_cases hc : a * b < 18446744073709551616
    · have H1 := Lib.hid (show Dp.mulN a b = a * b from if_pos hc)
      have H2 := Lib.hid (show Dp.mulE a b = 0 from if_pos hc)
      have H3 := Lib.hid (show IntKind.u64.wrap (a * b) = a * b from by rw [IntKind.wrap_u64]; omega)
      have ht : (IntKind.u64.wrap ((IntKind.u64.wrap (a * b)).tdiv a) != b) = false := by rw [mul_test ha hb h0, decide_eq_true hc]; rfl
      clear hc hp
      go_enter Tryz.func126, Tryz.ntmps126
      go_wp2
      go_ret2
      exact ⟨ret_pair (H3.out.trans H1.out.symm) H2.out.symm, rfl⟩
    · have H1 := Lib.hid (show Dp.mulN a b = 0 from if_neg hc)
      have H2 := Lib.hid (show Dp.mulE a b = 111 from if_neg hc)
      have ht : (IntKind.u64.wrap ((IntKind.u64.wrap (a * b)).tdiv a) != b) = true := by rw [mul_test ha hb h0, decide_eq_false hc]; rfl
      clear hc hp
      go_enter Tryz.func126, Tryz.ntmps126
      go_wp2
      go_ret2
      exact ⟨ret_pair H1.out.symm H2.out.symm, rfl⟩
theorem most_div {a : Int} (ha : Dp.U a) (h0 : a ≠ 0) : IntKind.u64.wrap (Int.tdiv 18446744073709551615 a) = 18446744073709551615 / a := by
  unfold Dp.U at ha
  rw [IntKind.wrap_u64, Int.tdiv_eq_ediv_of_nonneg (by omega)]
  have h1 : 0 ≤ (18446744073709551615 : Int) / a := Int.ediv_nonneg (by omega) ha.1
  have h2 : (18446744073709551615 : Int) / a ≤ 18446744073709551615 := Int.ediv_le_self _ (by omega)
  omega
end Go.Proofs.YtgfammlmbjmkoaaGreatDoor

/-
  DERIVED: THE SHELF's CONTRACTS AT THIS DUMP, IN PLAIN WORDS (tools/lay-plain.mjs out of 'TryzShelf.lean', which tools/lay-shelf.mjs wrote): THE SAME DECLARATIONS UNDER THE SAME NAMES: 'import', 'namespace', 'open', 'def', 'theorem' AND NOTHING ELSE: no command of the shelf's: FOR A HAND-IN. Each laying: the table of numbers ('.._ren') and one theorem, a field a fact of the dump's own or the kernel's comparison; each contract: ONE APPLICATION.
-/
namespace Go.Proofs
open Go.Shelf
def Tryz.lays169_ren : Go.Shelf.Ren := ⟨fun | 169 => 69 | n => n, fun | 70 => 104 | 9 => 9 | 0 => 0 | 72 => 106 | 37 => 46 | 127 => 121 | 3 => 3 | 5 => 5 | n => n, fun | n => n⟩
theorem Tryz.lays169 : Go.Proofs.Lays.n169 Tryz.prog Tryz.lays169_ren := {
  mixed := by kernel_rfl
  f169 := Tryz.func69.trans (congrArg some (by kernel_rfl))
  t0 := Tryz.underlying0
  a0 := Tryz.isAgg0
  z0 := Tryz.sizeOf0
  v0 := Tryz.zeroValue0
  t3 := Tryz.underlying3
  a3 := Tryz.isAgg3
  z3 := Tryz.sizeOf3
  v3 := Tryz.zeroValue3
  t9 := Tryz.underlying9
  a9 := Tryz.isAgg9
  z9 := Tryz.sizeOf9
  v9 := Tryz.zeroValue9
  t37 := Tryz.underlying46
  a37 := Tryz.isAgg46
  z37 := Tryz.sizeOf46
  v37 := Tryz.zeroValue46
  t70 := Tryz.underlying104
  a70 := Tryz.isAgg104
  z70 := Tryz.sizeOf104
  v70 := Tryz.zeroValue104
  t72 := Tryz.underlying106
  a72 := Tryz.isAgg106
  z72 := Tryz.sizeOf106
  v72 := Tryz.zeroValue106
  t127 := Tryz.underlying121
  a127 := Tryz.isAgg121
  z127 := Tryz.sizeOf121
  v127 := Tryz.zeroValue121 }
theorem Tryz.Builder_Extra_169 : Builder.Extra Tryz.prog Tryz.lays169_ren := {
  sizeBuilder := by kernel_rfl
  liesBuilder := by kernel_rfl
  t5 := Tryz.underlying5
  a5 := Tryz.isAgg5
  z5 := Tryz.sizeOf5
  v5 := Tryz.zeroValue5
  infoByte := by kernel_rfl
  cellsByte := by kernel_rfl
  sizeByte := by kernel_rfl
  neB5 := by decide }
open Go.RowKit in
/-- (*strings.Builder).String: "String returns the accumulated string.": OF A BUILDER THAT HOLDS AT LEAST ONE BYTE. ✋ THE MODEL FREEZES THOSE BYTES IN THE BUFFER (unsafe.String): a later write INTO them ends the model's run without an answer; a later append BEHIND them goes on. The statement's order of evaluation is drawn: one draw. (LAID: no walk: one application.) -/
theorem Tryz.Builder_String (B b : Nat) (l : List UInt8) (w : World) (h : Lib.IsBuilder 106 5 B b (Lib.byteCells l) w) (h0 : l ≠ []) :
    Calls Tryz.prog 69 #[.pointer (some ⟨b, 0, none⟩)] w fun e w' => e = .returned (.string ⟨l.toArray⟩) ∧ Below B w w' := Any.Builder_String Tryz.lays169 Tryz.Builder_Extra_169 B b l w h h0
open Go.RowKit in
/-- (*strings.Builder).String OF A BUILDER THAT HOLDS NO BYTE: the empty string. (Its buffer is nil, or a row of which it has taken nothing yet; where that row has NO capacity the model lays one new block for unsafe.SliceData's 'some address'.) One draw. (LAID: no walk: one application.) -/
theorem Tryz.Builder_String_empty (B b : Nat) (w : World) (h : Lib.IsBuilder 106 5 B b [] w) (hBw : B ≤ w.heap.size) :
    Calls Tryz.prog 69 #[.pointer (some ⟨b, 0, none⟩)] w fun e w' => e = .returned (.string ⟨#[]⟩) ∧ Below B w w' := Any.Builder_String_empty Tryz.lays169 Tryz.Builder_Extra_169 B b w h hBw
open Go.RowKit in
/-- (*strings.Builder).String: "String returns the accumulated string.": WHATEVER THE BUILDER HOLDS. (LAID: no walk: one application.) -/
theorem Tryz.Builder_String_any (B b : Nat) (l : List UInt8) (w : World) (h : Lib.IsBuilder 106 5 B b (Lib.byteCells l) w) (hBw : B ≤ w.heap.size) :
    Calls Tryz.prog 69 #[.pointer (some ⟨b, 0, none⟩)] w fun e w' => e = .returned (.string ⟨l.toArray⟩) ∧ Below B w w' := Any.Builder_String_any Tryz.lays169 Tryz.Builder_Extra_169 B b l w h hBw
def Tryz.lays241_ren : Go.Shelf.Ren := ⟨fun | 241 => 79 | 277 => 91 | n => n, fun | 70 => 104 | 3 => 3 | 0 => 0 | 72 => 106 | 37 => 46 | 5 => 5 | n => n, fun | n => n⟩
theorem Tryz.lays241 : Go.Proofs.Lays.n241 Tryz.prog Tryz.lays241_ren := {
  mixed := by kernel_rfl
  f241 := Tryz.func79.trans (congrArg some (by kernel_rfl))
  f277 := Tryz.func91.trans (congrArg some (by kernel_rfl))
  t0 := Tryz.underlying0
  a0 := Tryz.isAgg0
  z0 := Tryz.sizeOf0
  v0 := Tryz.zeroValue0
  t3 := Tryz.underlying3
  a3 := Tryz.isAgg3
  z3 := Tryz.sizeOf3
  v3 := Tryz.zeroValue3
  t37 := Tryz.underlying46
  a37 := Tryz.isAgg46
  z37 := Tryz.sizeOf46
  v37 := Tryz.zeroValue46
  t70 := Tryz.underlying104
  a70 := Tryz.isAgg104
  z70 := Tryz.sizeOf104
  v70 := Tryz.zeroValue104
  t72 := Tryz.underlying106
  a72 := Tryz.isAgg106
  z72 := Tryz.sizeOf106
  v72 := Tryz.zeroValue106 }
theorem Tryz.Builder_Extra_241 : Builder.Extra Tryz.prog Tryz.lays241_ren := {
  sizeBuilder := by kernel_rfl
  liesBuilder := by kernel_rfl
  t5 := Tryz.underlying5
  a5 := Tryz.isAgg5
  z5 := Tryz.sizeOf5
  v5 := Tryz.zeroValue5
  infoByte := by kernel_rfl
  cellsByte := by kernel_rfl
  sizeByte := by kernel_rfl
  neB5 := by decide }
open Go.RowKit in
/-- (*strings.Builder).grow (no doc but "grow copies the buffer to a new, larger buffer so that there are at least n bytes of capacity beyond len(b.buf)."): AT A BUILDER WITHOUT A BUFFER: a new row of whatever bytes for its buffer, none of them its own yet. Three draws. (LAID: no walk: one application.) -/
theorem Tryz.Builder_grow_fresh (B b n : Nat) (w : World) (hB : B ≤ b) (hbk : w.heap[b]? = some (.cells #[.pointer (some ⟨b, 0, none⟩), .slice none 0 0] 106 (0, 0))) (hBw : B ≤ w.heap.size) (hn : n ≤ 281474976710656) :
    Calls Tryz.prog 79 #[.pointer (some ⟨b, 0, none⟩), .int .i64 n] w fun e w' => e = .returned (.tuple #[]) ∧ (Lib.BuilderAt 106 5 B b (.pointer (some ⟨b, 0, none⟩)) [] w' ∧ Below B w w') := Any.Builder_grow_fresh Tryz.lays241 Tryz.Builder_Extra_241 B b n w hB hbk hBw hn
def Tryz.lays165_ren : Go.Shelf.Ren := ⟨fun | 165 => 67 | 240 => 78 | 241 => 79 | 276 => 90 | 277 => 91 | n => n, fun | 70 => 104 | 3 => 3 | 0 => 0 | 4 => 4 | 9 => 9 | 20 => 20 | 72 => 106 | 37 => 46 | 164 => 132 | 5 => 5 | n => n, fun | n => n⟩
theorem Tryz.lays165 : Go.Proofs.Lays.n165 Tryz.prog Tryz.lays165_ren := {
  mixed := by kernel_rfl
  f165 := Tryz.func67.trans (congrArg some (by kernel_rfl))
  f240 := Tryz.func78.trans (congrArg some (by kernel_rfl))
  f241 := Tryz.func79.trans (congrArg some (by kernel_rfl))
  f276 := Tryz.func90.trans (congrArg some (by kernel_rfl))
  f277 := Tryz.func91.trans (congrArg some (by kernel_rfl))
  t0 := Tryz.underlying0
  a0 := Tryz.isAgg0
  z0 := Tryz.sizeOf0
  v0 := Tryz.zeroValue0
  t3 := Tryz.underlying3
  a3 := Tryz.isAgg3
  z3 := Tryz.sizeOf3
  v3 := Tryz.zeroValue3
  t4 := Tryz.underlying4
  a4 := Tryz.isAgg4
  z4 := Tryz.sizeOf4
  v4 := Tryz.zeroValue4
  t9 := Tryz.underlying9
  a9 := Tryz.isAgg9
  z9 := Tryz.sizeOf9
  v9 := Tryz.zeroValue9
  t20 := Tryz.underlying20
  a20 := Tryz.isAgg20
  z20 := Tryz.sizeOf20
  v20 := Tryz.zeroValue20
  t37 := Tryz.underlying46
  a37 := Tryz.isAgg46
  z37 := Tryz.sizeOf46
  v37 := Tryz.zeroValue46
  t70 := Tryz.underlying104
  a70 := Tryz.isAgg104
  z70 := Tryz.sizeOf104
  v70 := Tryz.zeroValue104
  t72 := Tryz.underlying106
  a72 := Tryz.isAgg106
  z72 := Tryz.sizeOf106
  v72 := Tryz.zeroValue106
  t164 := Tryz.underlying132
  a164 := Tryz.isAgg132
  z164 := Tryz.sizeOf132
  v164 := Tryz.zeroValue132 }
theorem Tryz.Builder_Extra_165 : Builder.Extra Tryz.prog Tryz.lays165_ren := {
  sizeBuilder := by kernel_rfl
  liesBuilder := by kernel_rfl
  t5 := Tryz.underlying5
  a5 := Tryz.isAgg5
  z5 := Tryz.sizeOf5
  v5 := Tryz.zeroValue5
  infoByte := by kernel_rfl
  cellsByte := by kernel_rfl
  sizeByte := by kernel_rfl
  neB5 := by decide }
open Go.RowKit in
/-- (*strings.Builder).Grow AT A BUILDER THAT HAS NOT BEEN WRITTEN ('var b strings.Builder; b.Grow(n)'): "Grow grows b's capacity, if necessary, to guarantee space for another n bytes.": it holds no byte behind it as before it. (LAID: no walk: one application.) -/
theorem Tryz.Builder_Grow_fresh (B b n : Nat) (w : World) (hB : B ≤ b) (hbk : w.heap[b]? = some (.cells #[.pointer none, .slice none 0 0] 106 (0, 0))) (hBw : B ≤ w.heap.size) (hn : n ≤ 281474976710656) :
    Calls Tryz.prog 67 #[.pointer (some ⟨b, 0, none⟩), .int .i64 n] w fun e w' => e = .returned (.tuple #[]) ∧ (Lib.BuilderAt 106 5 B b (.pointer (some ⟨b, 0, none⟩)) [] w' ∧ Below B w w') := Any.Builder_Grow_fresh Tryz.lays165 Tryz.Builder_Extra_165 B b n w hB hbk hBw hn
def Tryz.lays158_ren : Go.Shelf.Ren := ⟨fun | 158 => 82 | 165 => 67 | 166 => 68 | 167 => 81 | 169 => 69 | 230 => 93 | 203 => 94 | 240 => 78 | 241 => 79 | 197 => 101 | 118 => 105 | 168 => 106 | 270 => 107 | 262 => 108 | 276 => 90 | 277 => 91 | 260 => 111 | 242 => 115 | 313 => 116 | 278 => 129 | 274 => 130 | 275 => 131 | n => n, fun | 9 => 9 | 4 => 4 | 3 => 3 | 5 => 5 | 72 => 106 | 0 => 0 | 76 => 110 | 75 => 109 | 107 => 136 | 70 => 104 | 20 => 20 | 37 => 46 | 127 => 121 | 21 => 21 | 105 => 143 | 164 => 132 | 162 => 159 | 203 => 157 | 119 => 170 | 46 => 155 | 139 => 173 | 138 => 172 | 51 => 174 | 160 => 177 | 208 => 188 | 206 => 186 | 80 => 112 | n => n, fun | 13 => 1 | 3 => 2 | 4 => 3 | n => n⟩
theorem Tryz.lays158 : Go.Proofs.Lays.n158 Tryz.prog Tryz.lays158_ren := {
  mixed := by kernel_rfl
  f118 := Tryz.func105.trans (congrArg some (by kernel_rfl))
  f158 := Tryz.func82.trans (congrArg some (by kernel_rfl))
  f165 := Tryz.func67.trans (congrArg some (by kernel_rfl))
  f166 := Tryz.func68.trans (congrArg some (by kernel_rfl))
  f167 := Tryz.func81.trans (congrArg some (by kernel_rfl))
  f168 := Tryz.func106.trans (congrArg some (by kernel_rfl))
  f169 := Tryz.func69.trans (congrArg some (by kernel_rfl))
  f197 := Tryz.func101.trans (congrArg some (by kernel_rfl))
  f203 := Tryz.func94.trans (congrArg some (by kernel_rfl))
  f230 := Tryz.func93.trans (congrArg some (by kernel_rfl))
  f240 := Tryz.func78.trans (congrArg some (by kernel_rfl))
  f241 := Tryz.func79.trans (congrArg some (by kernel_rfl))
  f242 := Tryz.func115.trans (congrArg some (by kernel_rfl))
  f260 := Tryz.func111.trans (congrArg some (by kernel_rfl))
  f262 := Tryz.func108.trans (congrArg some (by kernel_rfl))
  f270 := Tryz.func107.trans (congrArg some (by kernel_rfl))
  f274 := Tryz.func130.trans (congrArg some (by kernel_rfl))
  f275 := Tryz.func131.trans (congrArg some (by kernel_rfl))
  f276 := Tryz.func90.trans (congrArg some (by kernel_rfl))
  f277 := Tryz.func91.trans (congrArg some (by kernel_rfl))
  f278 := Tryz.func129.trans (congrArg some (by kernel_rfl))
  f313 := Tryz.func116.trans (congrArg some (by kernel_rfl))
  t0 := Tryz.underlying0
  a0 := Tryz.isAgg0
  z0 := Tryz.sizeOf0
  v0 := Tryz.zeroValue0
  t3 := Tryz.underlying3
  a3 := Tryz.isAgg3
  z3 := Tryz.sizeOf3
  v3 := Tryz.zeroValue3
  t4 := Tryz.underlying4
  a4 := Tryz.isAgg4
  z4 := Tryz.sizeOf4
  v4 := Tryz.zeroValue4
  t5 := Tryz.underlying5
  a5 := Tryz.isAgg5
  z5 := Tryz.sizeOf5
  v5 := Tryz.zeroValue5
  t9 := Tryz.underlying9
  a9 := Tryz.isAgg9
  z9 := Tryz.sizeOf9
  v9 := Tryz.zeroValue9
  t20 := Tryz.underlying20
  a20 := Tryz.isAgg20
  z20 := Tryz.sizeOf20
  v20 := Tryz.zeroValue20
  t21 := Tryz.underlying21
  a21 := Tryz.isAgg21
  z21 := Tryz.sizeOf21
  v21 := Tryz.zeroValue21
  t37 := Tryz.underlying46
  a37 := Tryz.isAgg46
  z37 := Tryz.sizeOf46
  v37 := Tryz.zeroValue46
  t46 := Tryz.underlying155
  a46 := Tryz.isAgg155
  z46 := Tryz.sizeOf155
  v46 := Tryz.zeroValue155
  t51 := Tryz.underlying174
  a51 := Tryz.isAgg174
  z51 := Tryz.sizeOf174
  v51 := Tryz.zeroValue174
  t70 := Tryz.underlying104
  a70 := Tryz.isAgg104
  z70 := Tryz.sizeOf104
  v70 := Tryz.zeroValue104
  t72 := Tryz.underlying106
  a72 := Tryz.isAgg106
  z72 := Tryz.sizeOf106
  v72 := Tryz.zeroValue106
  t75 := Tryz.underlying109
  a75 := Tryz.isAgg109
  z75 := Tryz.sizeOf109
  v75 := Tryz.zeroValue109
  t76 := Tryz.underlying110
  a76 := Tryz.isAgg110
  z76 := Tryz.sizeOf110
  v76 := Tryz.zeroValue110
  t105 := Tryz.underlying143
  a105 := Tryz.isAgg143
  z105 := Tryz.sizeOf143
  v105 := Tryz.zeroValue143
  t107 := Tryz.underlying136
  a107 := Tryz.isAgg136
  z107 := Tryz.sizeOf136
  v107 := Tryz.zeroValue136
  t119 := Tryz.underlying170
  a119 := Tryz.isAgg170
  z119 := Tryz.sizeOf170
  t127 := Tryz.underlying121
  a127 := Tryz.isAgg121
  z127 := Tryz.sizeOf121
  v127 := Tryz.zeroValue121
  t138 := Tryz.underlying172
  a138 := Tryz.isAgg172
  z138 := Tryz.sizeOf172
  v138 := Tryz.zeroValue172
  t139 := Tryz.underlying173
  a139 := Tryz.isAgg173
  z139 := Tryz.sizeOf173
  v139 := Tryz.zeroValue173
  t160 := Tryz.underlying177
  a160 := Tryz.isAgg177
  z160 := Tryz.sizeOf177
  v160 := Tryz.zeroValue177
  t162 := Tryz.underlying159
  a162 := Tryz.isAgg159
  z162 := Tryz.sizeOf159
  v162 := Tryz.zeroValue159
  t164 := Tryz.underlying132
  a164 := Tryz.isAgg132
  z164 := Tryz.sizeOf132
  v164 := Tryz.zeroValue132
  t203 := Tryz.underlying157
  a203 := Tryz.isAgg157
  z203 := Tryz.sizeOf157
  v203 := Tryz.zeroValue157
  t206 := Tryz.underlying186
  a206 := Tryz.isAgg186
  z206 := Tryz.sizeOf186
  v206 := Tryz.zeroValue186
  t208 := Tryz.underlying188
  a208 := Tryz.isAgg188
  z208 := Tryz.sizeOf188
  v208 := Tryz.zeroValue188
  g3 := by kernel_rfl
  g4 := by kernel_rfl
  g13 := by kernel_rfl }
theorem Tryz.Builder_Extra_158 : Builder.Extra Tryz.prog Tryz.lays158_ren := {
  sizeBuilder := by kernel_rfl
  liesBuilder := by kernel_rfl
  t5 := Tryz.underlying5
  a5 := Tryz.isAgg5
  z5 := Tryz.sizeOf5
  v5 := Tryz.zeroValue5
  infoByte := by kernel_rfl
  cellsByte := by kernel_rfl
  sizeByte := by kernel_rfl
  neB5 := by decide }
open Go.RowKit in
/-- strings.ToUpper: "ToUpper returns s with all Unicode letters mapped to their upper case.": ON ASCII TEXT OF AT MOST 2^47 BYTES. Below the heap's end the world is as it was: where a letter turns, the call makes a builder and its buffer. (LAID: no walk: one application.) -/
theorem Tryz.strings_ToUpper_ascii (s : ByteArray) (w : World) (hs : s.size ≤ 140737488355328) (hascii : ∀ (j : Nat) (b : UInt8), s.data.toList[j]? = some b → b.toNat < 128) :
    Calls Tryz.prog 82 #[.string s] w fun e w' => e = .returned (.string ⟨(Lib.toUpperA s.data.toList).toArray⟩) ∧ Below w.heap.size w w' := Any.strings_ToUpper_ascii Tryz.lays158 Tryz.Builder_Extra_158 s w hs hascii
def Tryz.lays156_ren : Go.Shelf.Ren := ⟨fun | 156 => 41 | 165 => 67 | 166 => 68 | 169 => 69 | 240 => 78 | 241 => 79 | 276 => 90 | 277 => 91 | n => n, fun | 31 => 41 | 9 => 9 | 3 => 3 | 4 => 4 | 0 => 0 | 20 => 20 | 72 => 106 | 76 => 110 | 70 => 104 | 37 => 46 | 75 => 109 | 127 => 121 | 164 => 132 | 5 => 5 | 80 => 112 | n => n, fun | n => n⟩
theorem Tryz.lays156 : Go.Proofs.Lays.n156 Tryz.prog Tryz.lays156_ren := {
  mixed := by kernel_rfl
  f156 := Tryz.func41.trans (congrArg some (by kernel_rfl))
  f165 := Tryz.func67.trans (congrArg some (by kernel_rfl))
  f166 := Tryz.func68.trans (congrArg some (by kernel_rfl))
  f169 := Tryz.func69.trans (congrArg some (by kernel_rfl))
  f240 := Tryz.func78.trans (congrArg some (by kernel_rfl))
  f241 := Tryz.func79.trans (congrArg some (by kernel_rfl))
  f276 := Tryz.func90.trans (congrArg some (by kernel_rfl))
  f277 := Tryz.func91.trans (congrArg some (by kernel_rfl))
  t0 := Tryz.underlying0
  a0 := Tryz.isAgg0
  z0 := Tryz.sizeOf0
  v0 := Tryz.zeroValue0
  t3 := Tryz.underlying3
  a3 := Tryz.isAgg3
  z3 := Tryz.sizeOf3
  v3 := Tryz.zeroValue3
  t4 := Tryz.underlying4
  a4 := Tryz.isAgg4
  z4 := Tryz.sizeOf4
  v4 := Tryz.zeroValue4
  t9 := Tryz.underlying9
  a9 := Tryz.isAgg9
  z9 := Tryz.sizeOf9
  v9 := Tryz.zeroValue9
  t20 := Tryz.underlying20
  a20 := Tryz.isAgg20
  z20 := Tryz.sizeOf20
  v20 := Tryz.zeroValue20
  t31 := Tryz.underlying41
  a31 := Tryz.isAgg41
  z31 := Tryz.sizeOf41
  v31 := Tryz.zeroValue41
  t37 := Tryz.underlying46
  a37 := Tryz.isAgg46
  z37 := Tryz.sizeOf46
  v37 := Tryz.zeroValue46
  t70 := Tryz.underlying104
  a70 := Tryz.isAgg104
  z70 := Tryz.sizeOf104
  v70 := Tryz.zeroValue104
  t72 := Tryz.underlying106
  a72 := Tryz.isAgg106
  z72 := Tryz.sizeOf106
  v72 := Tryz.zeroValue106
  t75 := Tryz.underlying109
  a75 := Tryz.isAgg109
  z75 := Tryz.sizeOf109
  v75 := Tryz.zeroValue109
  t76 := Tryz.underlying110
  a76 := Tryz.isAgg110
  z76 := Tryz.sizeOf110
  v76 := Tryz.zeroValue110
  t127 := Tryz.underlying121
  a127 := Tryz.isAgg121
  z127 := Tryz.sizeOf121
  v127 := Tryz.zeroValue121
  t164 := Tryz.underlying132
  a164 := Tryz.isAgg132
  z164 := Tryz.sizeOf132
  v164 := Tryz.zeroValue132 }
theorem Tryz.Builder_Extra_156 : Builder.Extra Tryz.prog Tryz.lays156_ren := {
  sizeBuilder := by kernel_rfl
  liesBuilder := by kernel_rfl
  t5 := Tryz.underlying5
  a5 := Tryz.isAgg5
  z5 := Tryz.sizeOf5
  v5 := Tryz.zeroValue5
  infoByte := by kernel_rfl
  cellsByte := by kernel_rfl
  sizeByte := by kernel_rfl
  neB5 := by decide }
open Go.RowKit in
/-- No element: the empty string; the world is as it was. (Whatever the slice's address and capacity: a nil slice too.) (LAID: no walk: one application.) -/
theorem Tryz.strings_Join_none (a : Option Addr) (c : Nat) (sep : ByteArray) (w : World) :
    Calls Tryz.prog 41 #[.slice a 0 c, .string sep] w fun e w' => e = .returned (.string ⟨#[]⟩) ∧ w' = w := Any.strings_Join_none Tryz.lays156 Tryz.Builder_Extra_156 a c sep w
open Go.RowKit in
/-- strings.Join: "Join concatenates the elements of its first argument to create a single string. The separator string sep is placed between elements in the resulting string.": HOWEVER MANY ELEMENTS. Below the heap's end the world is as it was. (LAID: no walk: one application.) -/
theorem Tryz.strings_Join (bk o c : Nat) (xs : List ByteArray) (sep : ByteArray) (w : World) (hcells : ∀ (j : Nat) x, xs[j]? = some x → w.cell? ⟨bk, o + j, none⟩ = some (.string x)) (hbk : bk < w.heap.size) (hN : xs.length ≤ 140737488355328) (hcap : xs.length ≤ c) (hlen : (Lib.join (xs.map (·.data.toList)) sep.data.toList).length ≤ 140737488355328) :
    Calls Tryz.prog 41 #[.slice (some ⟨bk, o, none⟩) xs.length c, .string sep] w fun e w' => e = .returned (.string ⟨(Lib.join (xs.map (·.data.toList)) sep.data.toList).toArray⟩) ∧ Below w.heap.size w w' := Any.strings_Join Tryz.lays156 Tryz.Builder_Extra_156 bk o c xs sep w hcells hbk hN hcap hlen
def Tryz.lays118_ren : Go.Shelf.Ren := ⟨fun | 118 => 105 | n => n, fun | 21 => 21 | 3 => 3 | 4 => 4 | n => n, fun | n => n⟩
theorem Tryz.lays118 : Go.Proofs.Lays.n118 Tryz.prog Tryz.lays118_ren := {
  mixed := by kernel_rfl
  f118 := Tryz.func105.trans (congrArg some (by kernel_rfl))
  t3 := Tryz.underlying3
  a3 := Tryz.isAgg3
  z3 := Tryz.sizeOf3
  v3 := Tryz.zeroValue3
  t4 := Tryz.underlying4
  a4 := Tryz.isAgg4
  z4 := Tryz.sizeOf4
  v4 := Tryz.zeroValue4
  t21 := Tryz.underlying21
  a21 := Tryz.isAgg21
  z21 := Tryz.sizeOf21
  v21 := Tryz.zeroValue21 }
/-- utf8.RuneLen: "RuneLen returns the number of bytes in the UTF-8 encoding of the rune. It returns -1 if the rune is not a valid value to encode in UTF-8.": IT RETURNS 'Lib.runeLen r'; the world is as it was. (LAID: no walk: one application.) -/
theorem Tryz.utf8_RuneLen (r : Int) (w : World) :
    Calls Tryz.prog 105 #[.int .i32 r] w fun e w' => e = .returned (.int .i64 (Lib.runeLen r)) ∧ w' = w := Any.utf8_RuneLen Tryz.lays118 r w
def Tryz.lays137_ren : Go.Shelf.Ren := ⟨fun | 137 => 80 | 217 => 92 | 266 => 104 | n => n, fun | 9 => 9 | 5 => 5 | 3 => 3 | n => n, fun | n => n⟩
theorem Tryz.lays137 : Go.Proofs.Lays.n137 Tryz.prog Tryz.lays137_ren := {
  mixed := by kernel_rfl
  f137 := Tryz.func80.trans (congrArg some (by kernel_rfl))
  f217 := Tryz.func92.trans (congrArg some (by kernel_rfl))
  f266 := Tryz.func104.trans (congrArg some (by kernel_rfl))
  t3 := Tryz.underlying3
  a3 := Tryz.isAgg3
  z3 := Tryz.sizeOf3
  v3 := Tryz.zeroValue3
  t5 := Tryz.underlying5
  a5 := Tryz.isAgg5
  z5 := Tryz.sizeOf5
  v5 := Tryz.zeroValue5
  t9 := Tryz.underlying9
  a9 := Tryz.isAgg9
  z9 := Tryz.sizeOf9
  v9 := Tryz.zeroValue9 }
open Go.RowKit in
/-- strings.IndexByte: "IndexByte returns the index of the first instance of c in s, or -1 if c is not present in s.": IT RETURNS 'Lib.indexByte s c'; the world is as it was. (LAID: no walk: one application.) -/
theorem Tryz.strings_IndexByte (s : ByteArray) (c : Int) (w : World) :
    Calls Tryz.prog 80 #[.string s, .int .u8 c] w fun e w' => e = .returned (.int .i64 (Lib.indexByte s.data.toList c.toNat.toUInt8)) ∧ w' = w := Any.strings_IndexByte Tryz.lays137 s c w
open Go.RowKit in
/-- (*strings.Builder).String: "String returns the accumulated string.": OF A BUILDER THAT HOLDS AT LEAST ONE BYTE. ✋ THE MODEL FREEZES THOSE BYTES IN THE BUFFER (unsafe.String): a later write INTO them ends the model's run without an answer; a later append BEHIND them goes on. The statement's order of evaluation is drawn: one draw. THE FORM '_f': IT SAYS BESIDES THAT THE BUILDER IS A BUILDER STILL ('Lib.IsBuilderF', the same bytes): SO IT CAN BE WRITTEN ON: 'b.WriteString(b.String()[:k])'. (LAID: no walk: one application.) -/
theorem Tryz.Builder_String_f (B b : Nat) (l : List UInt8) (w : World) (h : Lib.IsBuilderF 106 5 B b (Lib.byteCells l) w) (h0 : l ≠ []) :
    Calls Tryz.prog 69 #[.pointer (some ⟨b, 0, none⟩)] w fun e w' => e = .returned (.string ⟨l.toArray⟩) ∧ (Lib.IsBuilderF 106 5 B b (Lib.byteCells l) w' ∧ Below B w w') := Any.Builder_String_f Tryz.lays169 Tryz.Builder_Extra_169 B b l w h h0
open Go.RowKit in
/-- (*strings.Builder).String OF A BUILDER THAT HOLDS NO BYTE: the empty string; THE FORM '_f': a builder still. (LAID: no walk: one application.) -/
theorem Tryz.Builder_String_empty_f (B b : Nat) (w : World) (h : Lib.IsBuilderF 106 5 B b [] w) (hBw : B ≤ w.heap.size) :
    Calls Tryz.prog 69 #[.pointer (some ⟨b, 0, none⟩)] w fun e w' => e = .returned (.string ⟨#[]⟩) ∧ (Lib.IsBuilderF 106 5 B b [] w' ∧ Below B w w') := Any.Builder_String_empty_f Tryz.lays169 Tryz.Builder_Extra_169 B b w h hBw
open Go.RowKit in
/-- (*strings.Builder).String: "String returns the accumulated string.": WHATEVER THE BUILDER HOLDS; THE FORM '_f': OF A BUILDER THAT MAY HAVE BEEN READ BEFORE; AND IT IS A BUILDER STILL, holding the same bytes: it can be written on. (LAID: no walk: one application.) -/
theorem Tryz.Builder_String_any_f (B b : Nat) (l : List UInt8) (w : World) (h : Lib.IsBuilderF 106 5 B b (Lib.byteCells l) w) (hBw : B ≤ w.heap.size) :
    Calls Tryz.prog 69 #[.pointer (some ⟨b, 0, none⟩)] w fun e w' => e = .returned (.string ⟨l.toArray⟩) ∧ (Lib.IsBuilderF 106 5 B b (Lib.byteCells l) w' ∧ Below B w w') := Any.Builder_String_any_f Tryz.lays169 Tryz.Builder_Extra_169 B b l w h hBw
open Go.RowKit in
/-- (*strings.Builder).String: "String returns the accumulated string.": OF A BUILDER THAT HOLDS AT LEAST ONE BYTE. ✋ THE MODEL FREEZES THOSE BYTES IN THE BUFFER (unsafe.String): a later write INTO them ends the model's run without an answer; a later append BEHIND them goes on. The statement's order of evaluation is drawn: one draw. THE FORM '_k': OVER 'Lib.IsBuilderF' (a builder that 'String()' may have read), AND WITH THE FRAME THAT REACHES ABOVE THE BUILDER: 'Lib.OthersKept': every block that is not b and is no row of uint8's stands as it stood: the iterator of a range among them. (LAID: no walk: one application.) -/
theorem Tryz.Builder_String_k (B b : Nat) (l : List UInt8) (w : World) (h : Lib.IsBuilderF 106 5 B b (Lib.byteCells l) w) (h0 : l ≠ []) :
    Calls Tryz.prog 69 #[.pointer (some ⟨b, 0, none⟩)] w fun e w' => e = .returned (.string ⟨l.toArray⟩) ∧ (Lib.IsBuilderF 106 5 B b (Lib.byteCells l) w' ∧ Below B w w' ∧ Lib.OthersKept 5 (some b) w w') := Any.Builder_String_k Tryz.lays169 Tryz.Builder_Extra_169 B b l w h h0
open Go.RowKit in
/-- (*strings.Builder).String OF A BUILDER THAT HOLDS NO BYTE: the empty string; THE FORM '_k': OVER 'Lib.IsBuilderF' (a builder that 'String()' may have read), AND WITH THE FRAME THAT REACHES ABOVE THE BUILDER: 'Lib.OthersKept': every block that is not b and is no row of uint8's stands as it stood: the iterator of a range among them. (LAID: no walk: one application.) -/
theorem Tryz.Builder_String_empty_k (B b : Nat) (w : World) (h : Lib.IsBuilderF 106 5 B b [] w) (hBw : B ≤ w.heap.size) :
    Calls Tryz.prog 69 #[.pointer (some ⟨b, 0, none⟩)] w fun e w' => e = .returned (.string ⟨#[]⟩) ∧ (Lib.IsBuilderF 106 5 B b [] w' ∧ Below B w w' ∧ Lib.OthersKept 5 (some b) w w') := Any.Builder_String_empty_k Tryz.lays169 Tryz.Builder_Extra_169 B b w h hBw
open Go.RowKit in
/-- (*strings.Builder).String: "String returns the accumulated string.": WHATEVER THE BUILDER HOLDS; THE FORM '_k': OVER 'Lib.IsBuilderF' (a builder that 'String()' may have read), AND WITH THE FRAME THAT REACHES ABOVE THE BUILDER: 'Lib.OthersKept': every block that is not b and is no row of uint8's stands as it stood: the iterator of a range among them. (LAID: no walk: one application.) -/
theorem Tryz.Builder_String_any_k (B b : Nat) (l : List UInt8) (w : World) (h : Lib.IsBuilderF 106 5 B b (Lib.byteCells l) w) (hBw : B ≤ w.heap.size) :
    Calls Tryz.prog 69 #[.pointer (some ⟨b, 0, none⟩)] w fun e w' => e = .returned (.string ⟨l.toArray⟩) ∧ (Lib.IsBuilderF 106 5 B b (Lib.byteCells l) w' ∧ Below B w w' ∧ Lib.OthersKept 5 (some b) w w') := Any.Builder_String_any_k Tryz.lays169 Tryz.Builder_Extra_169 B b l w h hBw
open Go.RowKit in
/-- (*strings.Builder).grow (no doc but "grow copies the buffer to a new, larger buffer so that there are at least n bytes of capacity beyond len(b.buf)."): AT A BUILDER WITHOUT A BUFFER: a new row of whatever bytes for its buffer, none of them its own yet. Three draws. (LAID: no walk: one application.) -/
theorem Tryz.Builder_grow_fresh_cap (B b n : Nat) (w : World) (hB : B ≤ b) (hbk : w.heap[b]? = some (.cells #[.pointer (some ⟨b, 0, none⟩), .slice none 0 0] 106 (0, 0))) (hBw : B ≤ w.heap.size) (hn : n ≤ 281474976710656) :
    Calls Tryz.prog 79 #[.pointer (some ⟨b, 0, none⟩), .int .i64 n] w fun e w' => e = .returned (.tuple #[]) ∧ (Lib.BuilderAt 106 5 B b (.pointer (some ⟨b, 0, none⟩)) [] w' ∧ Below B w w') ∧ ∃ p cap, w'.cell? ⟨b, 1, none⟩ = some (.slice p 0 cap) ∧ n ≤ cap := Any.Builder_grow_fresh_cap Tryz.lays241 Tryz.Builder_Extra_241 B b n w hB hbk hBw hn
open Go.RowKit in
/-- (*strings.Builder).Grow AT A BUILDER THAT HAS NOT BEEN WRITTEN ('var b strings.Builder; b.Grow(n)'): "Grow grows b's capacity, if necessary, to guarantee space for another n bytes.": it holds no byte behind it as before it. (LAID: no walk: one application.) -/
theorem Tryz.Builder_Grow_fresh_cap (B b n : Nat) (w : World) (hB : B ≤ b) (hbk : w.heap[b]? = some (.cells #[.pointer none, .slice none 0 0] 106 (0, 0))) (hBw : B ≤ w.heap.size) (hn : n ≤ 281474976710656) :
    Calls Tryz.prog 67 #[.pointer (some ⟨b, 0, none⟩), .int .i64 n] w fun e w' => e = .returned (.tuple #[]) ∧ (Lib.BuilderAt 106 5 B b (.pointer (some ⟨b, 0, none⟩)) [] w' ∧ Below B w w') ∧ ∃ p cap, w'.cell? ⟨b, 1, none⟩ = some (.slice p 0 cap) ∧ n ≤ cap := Any.Builder_Grow_fresh_cap Tryz.lays165 Tryz.Builder_Extra_165 B b n w hB hbk hBw hn
def Tryz.lays129_ren : Go.Shelf.Ren := ⟨fun | 129 => 133 | n => n, fun | 53 => 119 | 3 => 3 | 4 => 4 | 46 => 155 | 5 => 5 | 9 => 9 | n => n, fun | n => n⟩
theorem Tryz.lays129 : Go.Proofs.Lays.n129 Tryz.prog Tryz.lays129_ren := {
  mixed := by kernel_rfl
  f129 := Tryz.func133.trans (congrArg some (by kernel_rfl))
  t3 := Tryz.underlying3
  a3 := Tryz.isAgg3
  z3 := Tryz.sizeOf3
  v3 := Tryz.zeroValue3
  t4 := Tryz.underlying4
  a4 := Tryz.isAgg4
  z4 := Tryz.sizeOf4
  v4 := Tryz.zeroValue4
  t5 := Tryz.underlying5
  a5 := Tryz.isAgg5
  z5 := Tryz.sizeOf5
  v5 := Tryz.zeroValue5
  t9 := Tryz.underlying9
  a9 := Tryz.isAgg9
  z9 := Tryz.sizeOf9
  v9 := Tryz.zeroValue9
  t46 := Tryz.underlying155
  a46 := Tryz.isAgg155
  z46 := Tryz.sizeOf155
  v46 := Tryz.zeroValue155
  t53 := Tryz.underlying119
  a53 := Tryz.isAgg119
  z53 := Tryz.sizeOf119
  v53 := Tryz.zeroValue119 }
/-- bits.Len64: "Len64 returns the minimum number of bits required to represent x; the result is 0 for x == 0.": IT RETURNS 'Lib.bitLen x'; the world is as it was. ('h0', 'h1': x is a uint64.) (LAID: no walk: one application.) -/
theorem Tryz.bits_Len64 (x : Int) (w : World) (h0 : 0 ≤ x) (h1 : x ≤ 18446744073709551615) :
    Calls Tryz.prog 133 #[.int .u64 x] w fun e w' => e = .returned (.int .i64 (Lib.bitLen x.toNat)) ∧ w' = w := Any.bits_Len64 Tryz.lays129 x w h0 h1
def Tryz.lays317_ren : Go.Shelf.Ren := ⟨fun | 317 => 132 | n => n, fun | 3 => 3 | 46 => 155 | n => n, fun | n => n⟩
theorem Tryz.lays317 : Go.Proofs.Lays.n317 Tryz.prog Tryz.lays317_ren := {
  mixed := by kernel_rfl
  f317 := Tryz.func132.trans (congrArg some (by kernel_rfl))
  t3 := Tryz.underlying3
  a3 := Tryz.isAgg3
  z3 := Tryz.sizeOf3
  v3 := Tryz.zeroValue3
  t46 := Tryz.underlying155
  a46 := Tryz.isAgg155
  z46 := Tryz.sizeOf155
  v46 := Tryz.zeroValue155 }
open Go.Lib in
/-- internal/strconv.log10Pow2: "log10Pow2(x) returns ⌊log₁₀ 2**x⌋ = ⌊x * log₁₀ 2⌋.": '(x * 78913) >> 18', at an x up to 64 (a length in bits). The world is as it was. (LAID: no walk: one application.) -/
theorem Tryz.internal_strconv_log10Pow2 (x : Nat) (h : x ≤ 64) (w : World) :
    Calls Tryz.prog 132 #[.int .i64 x] w fun e w' => e = .returned (.int .i64 (Lib.l10 x)) ∧ w' = w := Any.internal_strconv_log10Pow2 Tryz.lays317 x h w
def Tryz.lays318_ren : Go.Shelf.Ren := ⟨fun | 318 => 134 | n => n, fun | 3 => 3 | 4 => 4 | n => n, fun | n => n⟩
theorem Tryz.lays318 : Go.Proofs.Lays.n318 Tryz.prog Tryz.lays318_ren := {
  mixed := by kernel_rfl
  f318 := Tryz.func134.trans (congrArg some (by kernel_rfl))
  t3 := Tryz.underlying3
  a3 := Tryz.isAgg3
  z3 := Tryz.sizeOf3
  v3 := Tryz.zeroValue3
  t4 := Tryz.underlying4
  a4 := Tryz.isAgg4
  z4 := Tryz.sizeOf4
  v4 := Tryz.zeroValue4 }
open Go.Lib in
/-- internal/strconv.bool2: "bool2 converts b to an integer: 1 for true, 0 for false." The world is as it was. (LAID: no walk: one application.) -/
theorem Tryz.internal_strconv_bool2_int (b : Bool) (w : World) :
    Calls Tryz.prog 134 #[.bool b] w fun e w' => e = .returned (.int .i64 (if b then 1 else 0)) ∧ w' = w := Any.internal_strconv_bool2_int Tryz.lays318 b w
def Tryz.lays283_ren : Go.Shelf.Ren := ⟨fun | 283 => 117 | n => n, fun | 3 => 3 | 9 => 9 | 4 => 4 | n => n, fun | n => n⟩
theorem Tryz.lays283 : Go.Proofs.Lays.n283 Tryz.prog Tryz.lays283_ren := {
  mixed := by kernel_rfl
  f283 := Tryz.func117.trans (congrArg some (by kernel_rfl))
  t3 := Tryz.underlying3
  a3 := Tryz.isAgg3
  z3 := Tryz.sizeOf3
  v3 := Tryz.zeroValue3
  t4 := Tryz.underlying4
  a4 := Tryz.isAgg4
  z4 := Tryz.sizeOf4
  v4 := Tryz.zeroValue4
  t9 := Tryz.underlying9
  a9 := Tryz.isAgg9
  z9 := Tryz.sizeOf9
  v9 := Tryz.zeroValue9 }
open Go.Lib in
/-- internal/strconv.small: "small returns the string for an i with 0 <= i < nSmalls.": i's decimal numeral. The world is as it was. (LAID: no walk: one application.) -/
theorem Tryz.internal_strconv_small (i : Nat) (h : i < 100) (w : World) :
    Calls Tryz.prog 117 #[.int .i64 i] w fun e w' => e = .returned (.string ⟨(Lib.decDigits i).toArray⟩) ∧ w' = w := Any.internal_strconv_small Tryz.lays283 i h w
def Tryz.laysM284_ren : Go.Shelf.Ren := ⟨fun | 284 => 118 | 129 => 133 | 317 => 132 | 318 => 134 | n => n, fun | 53 => 119 | 3 => 3 | 212 => 181 | 0 => 0 | 4 => 4 | 46 => 155 | 5 => 5 | 9 => 9 | n => n, fun | 17 => 4 | n => n⟩
theorem Tryz.laysM284 : Go.Proofs.LaysM.n284 Tryz.prog Tryz.laysM284_ren := {
  mixed := by kernel_rfl
  f129 := Tryz.func133.trans (congrArg some (by kernel_rfl))
  f284 := Tryz.func118.trans (congrArg some (by kernel_rfl))
  f317 := Tryz.func132.trans (congrArg some (by kernel_rfl))
  f318 := Tryz.func134.trans (congrArg some (by kernel_rfl))
  t0 := Tryz.underlying0
  a0 := Tryz.isAgg0
  z0 := Tryz.sizeOf0
  v0 := Tryz.zeroValue0
  t3 := Tryz.underlying3
  a3 := Tryz.isAgg3
  z3 := Tryz.sizeOf3
  v3 := Tryz.zeroValue3
  t4 := Tryz.underlying4
  a4 := Tryz.isAgg4
  z4 := Tryz.sizeOf4
  v4 := Tryz.zeroValue4
  t5 := Tryz.underlying5
  a5 := Tryz.isAgg5
  z5 := Tryz.sizeOf5
  v5 := Tryz.zeroValue5
  t9 := Tryz.underlying9
  a9 := Tryz.isAgg9
  z9 := Tryz.sizeOf9
  v9 := Tryz.zeroValue9
  t46 := Tryz.underlying155
  a46 := Tryz.isAgg155
  z46 := Tryz.sizeOf155
  v46 := Tryz.zeroValue155
  t53 := Tryz.underlying119
  a53 := Tryz.isAgg119
  z53 := Tryz.sizeOf119
  v53 := Tryz.zeroValue119
  t212 := Tryz.underlying181
  a212 := Tryz.isAgg181
  z212 := Tryz.sizeOf181
  v212 := Tryz.zeroValue181
  g17 := by kernel_rfl
  i0 := by kernel_rfl
  i3 := by kernel_rfl
  i4 := by kernel_rfl
  i5 := by kernel_rfl
  i9 := by kernel_rfl
  i46 := by kernel_rfl
  i53 := by kernel_rfl
  i212 := by kernel_rfl
  m17 := by kernel_rfl }
open Go.Lib in
/-- internal/strconv.numDigits, at a d that is not 0: THE NUMBER OF d's DECIMAL DIGITS. The world is as it was. (LAID: no walk: one application.) -/
theorem Tryz.internal_strconv_numDigits (u : Nat) (h1 : 1 ≤ u) (h2 : u < 18446744073709551616) (w : World) (htab : Lib.TabIs Tryz.prog w "internal/strconv.uint64pow10" .u64 Lib.pow10Tab) :
    Calls Tryz.prog 118 #[.int .u64 u] w fun e w' => e = .returned (.int .i64 (Lib.nDigits u)) ∧ w' = w := Any.internal_strconv_numDigits Tryz.laysM284 u h1 h2 w htab
def Tryz.lays285_ren : Go.Shelf.Ren := ⟨fun | 285 => 119 | n => n, fun | 37 => 46 | 53 => 119 | 3 => 3 | 4 => 4 | 51 => 174 | 9 => 9 | 5 => 5 | 0 => 0 | n => n, fun | n => n⟩
theorem Tryz.lays285 : Go.Proofs.Lays.n285 Tryz.prog Tryz.lays285_ren := {
  mixed := by kernel_rfl
  f285 := Tryz.func119.trans (congrArg some (by kernel_rfl))
  t0 := Tryz.underlying0
  a0 := Tryz.isAgg0
  z0 := Tryz.sizeOf0
  v0 := Tryz.zeroValue0
  t3 := Tryz.underlying3
  a3 := Tryz.isAgg3
  z3 := Tryz.sizeOf3
  v3 := Tryz.zeroValue3
  t4 := Tryz.underlying4
  a4 := Tryz.isAgg4
  z4 := Tryz.sizeOf4
  v4 := Tryz.zeroValue4
  t5 := Tryz.underlying5
  a5 := Tryz.isAgg5
  z5 := Tryz.sizeOf5
  v5 := Tryz.zeroValue5
  t9 := Tryz.underlying9
  a9 := Tryz.isAgg9
  z9 := Tryz.sizeOf9
  v9 := Tryz.zeroValue9
  t37 := Tryz.underlying46
  a37 := Tryz.isAgg46
  z37 := Tryz.sizeOf46
  v37 := Tryz.zeroValue46
  t51 := Tryz.underlying174
  a51 := Tryz.isAgg174
  z51 := Tryz.sizeOf174
  v51 := Tryz.zeroValue174
  t53 := Tryz.underlying119
  a53 := Tryz.isAgg119
  z53 := Tryz.sizeOf119
  v53 := Tryz.zeroValue119 }
open Go.RowKit Go.Sort Go.Lib in
/-- internal/strconv.formatBase10: "formatBase10 formats the decimal representation of u into a. The caller is responsible for ensuring that a is big enough to hold u. If a is too big, leading zeros will be filled in as needed.": THE ROW HOLDS u's DIGITS ('FmtInv .. 0 ..': every place t holds 'dg u (len - 1 - t)'); all else is as it was but for the count of draws. (LAID: no walk: one application.) -/
theorem Tryz.internal_strconv_formatBase10 (blk off cap : Nat) (u : Nat) (d : Array UInt8) (w : World) (hH : Holds (fun (b : UInt8) => Value.int .u8 (b.toNat : Int)) w blk off d) (hu : u < 10 ^ d.size) (hu64 : u < 18446744073709551616) (hsz : d.size < 4611686018427387904) :
    Calls Tryz.prog 119 #[.slice (some ⟨blk, off, none⟩) d.size cap, .int .u64 u] w fun e w' =>
      e = .returned (.tuple #[]) ∧ ∃ (n v' : Nat) (dk : Array UInt8), w' = (putRow (fun (b : UInt8) => Value.int .u8 (b.toNat : Int)) w blk off dk).drewN n ∧ FmtInv d.size u 0 v' dk := Any.internal_strconv_formatBase10 Tryz.lays285 blk off cap u d w hH hu hu64 hsz
def Tryz.lays217_ren : Go.Shelf.Ren := ⟨fun | 217 => 92 | 266 => 104 | n => n, fun | 9 => 9 | 5 => 5 | 3 => 3 | n => n, fun | n => n⟩
theorem Tryz.lays217 : Go.Proofs.Lays.n217 Tryz.prog Tryz.lays217_ren := {
  mixed := by kernel_rfl
  f217 := Tryz.func92.trans (congrArg some (by kernel_rfl))
  f266 := Tryz.func104.trans (congrArg some (by kernel_rfl))
  t3 := Tryz.underlying3
  a3 := Tryz.isAgg3
  z3 := Tryz.sizeOf3
  v3 := Tryz.zeroValue3
  t5 := Tryz.underlying5
  a5 := Tryz.isAgg5
  z5 := Tryz.sizeOf5
  v5 := Tryz.zeroValue5
  t9 := Tryz.underlying9
  a9 := Tryz.isAgg9
  z9 := Tryz.sizeOf9
  v9 := Tryz.zeroValue9 }
open Go.RowKit Go.Lib in
/-- internal/stringslite.IndexByte (what strings.IndexByte calls): IT RETURNS 'Lib.indexByte s c'; the world is as it was. (LAID: no walk: one application.) -/
theorem Tryz.stringslite_IndexByte (s : ByteArray) (c : Int) (w : World) :
    Calls Tryz.prog 92 #[.string s, .int .u8 c] w fun e w' => e = .returned (.int .i64 (Lib.indexByte s.data.toList c.toNat.toUInt8)) ∧ w' = w := Any.stringslite_IndexByte Tryz.lays217 s c w
def Tryz.lays224_ren : Go.Shelf.Ren := ⟨fun | 224 => 113 | n => n, fun | 3 => 3 | n => n, fun | n => n⟩
theorem Tryz.lays224 : Go.Proofs.Lays.n224 Tryz.prog Tryz.lays224_ren := {
  mixed := by kernel_rfl
  f224 := Tryz.func113.trans (congrArg some (by kernel_rfl))
  t3 := Tryz.underlying3
  a3 := Tryz.isAgg3
  z3 := Tryz.sizeOf3
  v3 := Tryz.zeroValue3 }
open Go.RowKit Go.Lib in
/-- internal/bytealg.Cutover: "Cutover reports the number of failures of IndexByte we should tolerate before switching over to Index. n is the number of bytes processed so far.": on amd64: (n + 16) / 8. (LAID: no walk: one application.) -/
theorem Tryz.bytealg_Cutover (n : Int) (h0 : 0 ≤ n) (h1 : n < 4611686018427387904) (w : World) :
    Calls Tryz.prog 113 #[.int .i64 n] w fun e w' => e = .returned (.int .i64 ((n + 16) / 8)) ∧ w' = w := Any.bytealg_Cutover Tryz.lays224 n h0 h1 w
def Tryz.lays314_ren : Go.Shelf.Ren := ⟨fun | 314 => 128 | n => n, fun | 9 => 9 | 51 => 174 | 3 => 3 | 4 => 4 | 5 => 5 | 46 => 155 | n => n, fun | n => n⟩
theorem Tryz.lays314 : Go.Proofs.Lays.n314 Tryz.prog Tryz.lays314_ren := {
  mixed := by kernel_rfl
  f314 := Tryz.func128.trans (congrArg some (by kernel_rfl))
  t3 := Tryz.underlying3
  a3 := Tryz.isAgg3
  z3 := Tryz.sizeOf3
  v3 := Tryz.zeroValue3
  t4 := Tryz.underlying4
  a4 := Tryz.isAgg4
  z4 := Tryz.sizeOf4
  v4 := Tryz.zeroValue4
  t5 := Tryz.underlying5
  a5 := Tryz.isAgg5
  z5 := Tryz.sizeOf5
  v5 := Tryz.zeroValue5
  t9 := Tryz.underlying9
  a9 := Tryz.isAgg9
  z9 := Tryz.sizeOf9
  v9 := Tryz.zeroValue9
  t46 := Tryz.underlying155
  a46 := Tryz.isAgg155
  z46 := Tryz.sizeOf155
  v46 := Tryz.zeroValue155
  t51 := Tryz.underlying174
  a51 := Tryz.isAgg174
  z51 := Tryz.sizeOf174
  v51 := Tryz.zeroValue174 }
open Go.RowKit Go.Lib in
/-- hashStr: "returns the hash and the appropriate multiplicative factor for use in Rabin-Karp algorithm": THE HASH OF ALL OF sep, AND 16777619 ^ len(sep), both in uint32. (LAID: no walk: one application.) -/
theorem Tryz.bytealg_hashStr (sep : ByteArray) (hs : sep.size < 4294967281) (w : World) :
    Calls Tryz.prog 128 #[.string sep] w fun e w' => e = .returned (.tuple #[.int .u32 (RK.H sep.data.toList % 4294967296), .int .u32 (16777619 ^ sep.size % 4294967296)]) ∧ w' = w := Any.bytealg_hashStr Tryz.lays314 sep hs w
def Tryz.lays267_ren : Go.Shelf.Ren := ⟨fun | 267 => 114 | 314 => 128 | n => n, fun | 9 => 9 | 3 => 3 | 146 => 175 | 51 => 174 | 4 => 4 | 5 => 5 | 46 => 155 | n => n, fun | n => n⟩
theorem Tryz.lays267 : Go.Proofs.Lays.n267 Tryz.prog Tryz.lays267_ren := {
  mixed := by kernel_rfl
  f267 := Tryz.func114.trans (congrArg some (by kernel_rfl))
  f314 := Tryz.func128.trans (congrArg some (by kernel_rfl))
  t3 := Tryz.underlying3
  a3 := Tryz.isAgg3
  z3 := Tryz.sizeOf3
  v3 := Tryz.zeroValue3
  t4 := Tryz.underlying4
  a4 := Tryz.isAgg4
  z4 := Tryz.sizeOf4
  v4 := Tryz.zeroValue4
  t5 := Tryz.underlying5
  a5 := Tryz.isAgg5
  z5 := Tryz.sizeOf5
  v5 := Tryz.zeroValue5
  t9 := Tryz.underlying9
  a9 := Tryz.isAgg9
  z9 := Tryz.sizeOf9
  v9 := Tryz.zeroValue9
  t46 := Tryz.underlying155
  a46 := Tryz.isAgg155
  z46 := Tryz.sizeOf155
  v46 := Tryz.zeroValue155
  t51 := Tryz.underlying174
  a51 := Tryz.isAgg174
  z51 := Tryz.sizeOf174
  v51 := Tryz.zeroValue174
  t146 := Tryz.underlying175
  a146 := Tryz.isAgg175
  z146 := Tryz.sizeOf175
  v146 := Tryz.zeroValue175 }
open Go.RowKit Go.Lib in
theorem Tryz.bytealg_IndexRabinKarp (s sep : ByteArray) (h1 : 1 ≤ sep.size) (h2 : sep.size ≤ s.size) (hs : s.size < 4294967281) (w : World) :
    Calls Tryz.prog 114 #[.string s, .string sep] w fun e w' => e = .returned (.int .i64 (Lib.index s.data.toList sep.data.toList)) ∧ w' = w := Any.bytealg_IndexRabinKarp Tryz.lays267 s sep h1 h2 hs w
def Tryz.lays219_ren : Go.Shelf.Ren := ⟨fun | 219 => 103 | 217 => 92 | 225 => 112 | 224 => 113 | 267 => 114 | 266 => 104 | 314 => 128 | n => n, fun | 9 => 9 | 3 => 3 | 4 => 4 | 5 => 5 | 46 => 155 | 146 => 175 | 51 => 174 | n => n, fun | 1 => 0 | n => n⟩
theorem Tryz.lays219 : Go.Proofs.Lays.n219 Tryz.prog Tryz.lays219_ren := {
  mixed := by kernel_rfl
  f217 := Tryz.func92.trans (congrArg some (by kernel_rfl))
  f219 := Tryz.func103.trans (congrArg some (by kernel_rfl))
  f224 := Tryz.func113.trans (congrArg some (by kernel_rfl))
  f225 := Tryz.func112.trans (congrArg some (by kernel_rfl))
  f266 := Tryz.func104.trans (congrArg some (by kernel_rfl))
  f267 := Tryz.func114.trans (congrArg some (by kernel_rfl))
  f314 := Tryz.func128.trans (congrArg some (by kernel_rfl))
  t3 := Tryz.underlying3
  a3 := Tryz.isAgg3
  z3 := Tryz.sizeOf3
  v3 := Tryz.zeroValue3
  t4 := Tryz.underlying4
  a4 := Tryz.isAgg4
  z4 := Tryz.sizeOf4
  v4 := Tryz.zeroValue4
  t5 := Tryz.underlying5
  a5 := Tryz.isAgg5
  z5 := Tryz.sizeOf5
  v5 := Tryz.zeroValue5
  t9 := Tryz.underlying9
  a9 := Tryz.isAgg9
  z9 := Tryz.sizeOf9
  v9 := Tryz.zeroValue9
  t46 := Tryz.underlying155
  a46 := Tryz.isAgg155
  z46 := Tryz.sizeOf155
  v46 := Tryz.zeroValue155
  t51 := Tryz.underlying174
  a51 := Tryz.isAgg174
  z51 := Tryz.sizeOf174
  v51 := Tryz.zeroValue174
  t146 := Tryz.underlying175
  a146 := Tryz.isAgg175
  z146 := Tryz.sizeOf175
  v146 := Tryz.zeroValue175
  g1 := by kernel_rfl }
open Go.RowKit Go.Lib in
/-- internal/stringslite.Index (what strings.Index calls) AT A substr OF ONE BYTE c: IT RETURNS 'Lib.indexByte s c'; the world is as it was. (LAID: no walk: one application.) -/
theorem Tryz.stringslite_Index_one (s : ByteArray) (c : UInt8) (w : World) :
    Calls Tryz.prog 103 #[.string s, .string ⟨#[c]⟩] w fun e w' => e = .returned (.int .i64 (Lib.indexByte s.data.toList c)) ∧ w' = w := Any.stringslite_Index_one Tryz.lays219 s c w
open Go.RowKit Go.Lib in
/-- internal/stringslite.Index (what strings.Index calls) AT A substr OF WHATEVER LENGTH: IT RETURNS 'Lib.index s substr'; the world is as it was. 'm': what internal/bytealg.MaxLen holds: whatever. (LAID: no walk: one application.) -/
theorem Tryz.stringslite_Index (s sub : ByteArray) (m : Int) (w : World) (hs : s.size < 4294967281) (hm : w.cell? ⟨0, 0, none⟩ = some (.int .i64 m)) :
    Calls Tryz.prog 103 #[.string s, .string sub] w fun e w' => e = .returned (.int .i64 (Lib.index s.data.toList sub.data.toList)) ∧ w' = w := Any.stringslite_Index Tryz.lays219 s sub m w hs hm
def Tryz.lays143_ren : Go.Shelf.Ren := ⟨fun | 143 => 89 | 219 => 103 | 217 => 92 | 225 => 112 | 224 => 113 | 267 => 114 | 266 => 104 | 314 => 128 | n => n, fun | 9 => 9 | 3 => 3 | 4 => 4 | 5 => 5 | 46 => 155 | 146 => 175 | 51 => 174 | n => n, fun | 1 => 0 | n => n⟩
theorem Tryz.lays143 : Go.Proofs.Lays.n143 Tryz.prog Tryz.lays143_ren := {
  mixed := by kernel_rfl
  f143 := Tryz.func89.trans (congrArg some (by kernel_rfl))
  f217 := Tryz.func92.trans (congrArg some (by kernel_rfl))
  f219 := Tryz.func103.trans (congrArg some (by kernel_rfl))
  f224 := Tryz.func113.trans (congrArg some (by kernel_rfl))
  f225 := Tryz.func112.trans (congrArg some (by kernel_rfl))
  f266 := Tryz.func104.trans (congrArg some (by kernel_rfl))
  f267 := Tryz.func114.trans (congrArg some (by kernel_rfl))
  f314 := Tryz.func128.trans (congrArg some (by kernel_rfl))
  t3 := Tryz.underlying3
  a3 := Tryz.isAgg3
  z3 := Tryz.sizeOf3
  v3 := Tryz.zeroValue3
  t4 := Tryz.underlying4
  a4 := Tryz.isAgg4
  z4 := Tryz.sizeOf4
  v4 := Tryz.zeroValue4
  t5 := Tryz.underlying5
  a5 := Tryz.isAgg5
  z5 := Tryz.sizeOf5
  v5 := Tryz.zeroValue5
  t9 := Tryz.underlying9
  a9 := Tryz.isAgg9
  z9 := Tryz.sizeOf9
  v9 := Tryz.zeroValue9
  t46 := Tryz.underlying155
  a46 := Tryz.isAgg155
  z46 := Tryz.sizeOf155
  v46 := Tryz.zeroValue155
  t51 := Tryz.underlying174
  a51 := Tryz.isAgg174
  z51 := Tryz.sizeOf174
  v51 := Tryz.zeroValue174
  t146 := Tryz.underlying175
  a146 := Tryz.isAgg175
  z146 := Tryz.sizeOf175
  v146 := Tryz.zeroValue175
  g1 := by kernel_rfl }
open Go.RowKit Go.Lib in
/-- strings.Index: "Index returns the index of the first instance of substr in s, or -1 if substr is not present in s.": AT A substr OF ONE BYTE c: IT RETURNS 'Lib.indexByte s c'; the world is as it was. (LAID: no walk: one application.) -/
theorem Tryz.strings_Index_one (s : ByteArray) (c : UInt8) (w : World) :
    Calls Tryz.prog 89 #[.string s, .string ⟨#[c]⟩] w fun e w' => e = .returned (.int .i64 (Lib.indexByte s.data.toList c)) ∧ w' = w := Any.strings_Index_one Tryz.lays143 s c w
open Go.RowKit Go.Lib in
/-- strings.Index: "Index returns the index of the first instance of substr in s, or -1 if substr is not present in s.": IT RETURNS 'Lib.index s substr'; the world is as it was. (LAID: no walk: one application.) -/
theorem Tryz.strings_Index (s sub : ByteArray) (m : Int) (w : World) (hs : s.size < 4294967281) (hm : w.cell? ⟨0, 0, none⟩ = some (.int .i64 m)) :
    Calls Tryz.prog 89 #[.string s, .string sub] w fun e w' => e = .returned (.int .i64 (Lib.index s.data.toList sub.data.toList)) ∧ w' = w := Any.strings_Index Tryz.lays143 s sub m w hs hm
def Tryz.lays138_ren : Go.Shelf.Ren := ⟨fun | 138 => 88 | 195 => 100 | 218 => 102 | 143 => 89 | 219 => 103 | 217 => 92 | 225 => 112 | 224 => 113 | 267 => 114 | 266 => 104 | 314 => 128 | n => n, fun | 9 => 9 | 3 => 3 | 4 => 4 | 5 => 5 | 0 => 0 | 46 => 155 | 146 => 175 | 51 => 174 | n => n, fun | 1 => 0 | n => n⟩
theorem Tryz.lays138 : Go.Proofs.Lays.n138 Tryz.prog Tryz.lays138_ren := {
  mixed := by kernel_rfl
  f138 := Tryz.func88.trans (congrArg some (by kernel_rfl))
  f143 := Tryz.func89.trans (congrArg some (by kernel_rfl))
  f195 := Tryz.func100.trans (congrArg some (by kernel_rfl))
  f217 := Tryz.func92.trans (congrArg some (by kernel_rfl))
  f218 := Tryz.func102.trans (congrArg some (by kernel_rfl))
  f219 := Tryz.func103.trans (congrArg some (by kernel_rfl))
  f224 := Tryz.func113.trans (congrArg some (by kernel_rfl))
  f225 := Tryz.func112.trans (congrArg some (by kernel_rfl))
  f266 := Tryz.func104.trans (congrArg some (by kernel_rfl))
  f267 := Tryz.func114.trans (congrArg some (by kernel_rfl))
  f314 := Tryz.func128.trans (congrArg some (by kernel_rfl))
  t0 := Tryz.underlying0
  a0 := Tryz.isAgg0
  z0 := Tryz.sizeOf0
  v0 := Tryz.zeroValue0
  t3 := Tryz.underlying3
  a3 := Tryz.isAgg3
  z3 := Tryz.sizeOf3
  v3 := Tryz.zeroValue3
  t4 := Tryz.underlying4
  a4 := Tryz.isAgg4
  z4 := Tryz.sizeOf4
  v4 := Tryz.zeroValue4
  t5 := Tryz.underlying5
  a5 := Tryz.isAgg5
  z5 := Tryz.sizeOf5
  v5 := Tryz.zeroValue5
  t9 := Tryz.underlying9
  a9 := Tryz.isAgg9
  z9 := Tryz.sizeOf9
  v9 := Tryz.zeroValue9
  t46 := Tryz.underlying155
  a46 := Tryz.isAgg155
  z46 := Tryz.sizeOf155
  v46 := Tryz.zeroValue155
  t51 := Tryz.underlying174
  a51 := Tryz.isAgg174
  z51 := Tryz.sizeOf174
  v51 := Tryz.zeroValue174
  t146 := Tryz.underlying175
  a146 := Tryz.isAgg175
  z146 := Tryz.sizeOf175
  v146 := Tryz.zeroValue175
  g1 := by kernel_rfl }
open Go.RowKit Go.Lib in
/-- strings.Count AT A substr OF ONE BYTE ('hp'): "Count counts the number of non-overlapping instances of substr in s.": IT RETURNS 'Lib.countByte s (that byte)'; the world is as it was. ✋ NO CONTRACT HERE YET at an empty substr (utf8.RuneCountInString) or at a longer one (a loop over strings.Index). (LAID: no walk: one application.) -/
theorem Tryz.strings_Count_one (s : ByteArray) (c : UInt8) (w : World) :
    Calls Tryz.prog 88 #[.string s, .string ⟨#[c]⟩] w fun e w' => e = .returned (.int .i64 (Lib.countByte s.data.toList c)) ∧ w' = w := Any.strings_Count_one Tryz.lays138 s c w
open Go.RowKit Go.Lib in
/-- strings.Count AT A substr OF TWO BYTES OR MORE: "Count counts the number of non-overlapping instances of substr in s.": IT RETURNS 'Lib.count s substr'; the world is as it was. (LAID: no walk: one application.) -/
theorem Tryz.strings_Count (s sub : ByteArray) (m : Int) (w : World) (hs : s.size < 4294967281) (hm : w.cell? ⟨0, 0, none⟩ = some (.int .i64 m)) (h2 : 2 ≤ sub.size) :
    Calls Tryz.prog 88 #[.string s, .string sub] w fun e w' => e = .returned (.int .i64 (Lib.countB s sub)) ∧ w' = w := Any.strings_Count Tryz.lays138 s sub m w hs hm h2
def Tryz.laysM219_ren : Go.Shelf.Ren := ⟨fun | 219 => 103 | 217 => 92 | 225 => 112 | 224 => 113 | 267 => 114 | 266 => 104 | 314 => 128 | n => n, fun | 9 => 9 | 3 => 3 | 4 => 4 | 5 => 5 | 46 => 155 | 146 => 175 | 51 => 174 | n => n, fun | 1 => 0 | n => n⟩
theorem Tryz.laysM219 : Go.Proofs.LaysM.n219 Tryz.prog Tryz.laysM219_ren := {
  mixed := by kernel_rfl
  f217 := Tryz.func92.trans (congrArg some (by kernel_rfl))
  f219 := Tryz.func103.trans (congrArg some (by kernel_rfl))
  f224 := Tryz.func113.trans (congrArg some (by kernel_rfl))
  f225 := Tryz.func112.trans (congrArg some (by kernel_rfl))
  f266 := Tryz.func104.trans (congrArg some (by kernel_rfl))
  f267 := Tryz.func114.trans (congrArg some (by kernel_rfl))
  f314 := Tryz.func128.trans (congrArg some (by kernel_rfl))
  t3 := Tryz.underlying3
  a3 := Tryz.isAgg3
  z3 := Tryz.sizeOf3
  v3 := Tryz.zeroValue3
  t4 := Tryz.underlying4
  a4 := Tryz.isAgg4
  z4 := Tryz.sizeOf4
  v4 := Tryz.zeroValue4
  t5 := Tryz.underlying5
  a5 := Tryz.isAgg5
  z5 := Tryz.sizeOf5
  v5 := Tryz.zeroValue5
  t9 := Tryz.underlying9
  a9 := Tryz.isAgg9
  z9 := Tryz.sizeOf9
  v9 := Tryz.zeroValue9
  t46 := Tryz.underlying155
  a46 := Tryz.isAgg155
  z46 := Tryz.sizeOf155
  v46 := Tryz.zeroValue155
  t51 := Tryz.underlying174
  a51 := Tryz.isAgg174
  z51 := Tryz.sizeOf174
  v51 := Tryz.zeroValue174
  t146 := Tryz.underlying175
  a146 := Tryz.isAgg175
  z146 := Tryz.sizeOf175
  v146 := Tryz.zeroValue175
  g1 := by kernel_rfl
  i3 := by kernel_rfl
  i4 := by kernel_rfl
  i5 := by kernel_rfl
  i9 := by kernel_rfl
  i46 := by kernel_rfl
  i51 := by kernel_rfl
  i146 := by kernel_rfl
  m1 := by kernel_rfl
  s1_3 := fun w h => Go.Proofs.cell_of_shapedOpen_int (zero := #[.int .i64 0]) (t := 3) h (of_decide_eq_true (by kernel_rfl)) (by kernel_rfl) rfl (by kernel_rfl) (by kernel_rfl) Tryz.underlying3 }
open Go.RowKit Go.Lib in
theorem Tryz.stringslite_Index_shaped (s sub : ByteArray) (w : World) (h : w.ShapedOpen Tryz.prog) (hs : s.size < 4294967281) :
    Calls Tryz.prog 103 #[.string s, .string sub] w fun e w' => e = .returned (.int .i64 (Lib.index s.data.toList sub.data.toList)) ∧ w' = w := Any.stringslite_Index_shaped Tryz.laysM219 s sub w h hs
def Tryz.laysM143_ren : Go.Shelf.Ren := ⟨fun | 143 => 89 | 219 => 103 | 217 => 92 | 225 => 112 | 224 => 113 | 267 => 114 | 266 => 104 | 314 => 128 | n => n, fun | 9 => 9 | 3 => 3 | 4 => 4 | 5 => 5 | 46 => 155 | 146 => 175 | 51 => 174 | n => n, fun | 1 => 0 | n => n⟩
theorem Tryz.laysM143 : Go.Proofs.LaysM.n143 Tryz.prog Tryz.laysM143_ren := {
  mixed := by kernel_rfl
  f143 := Tryz.func89.trans (congrArg some (by kernel_rfl))
  f217 := Tryz.func92.trans (congrArg some (by kernel_rfl))
  f219 := Tryz.func103.trans (congrArg some (by kernel_rfl))
  f224 := Tryz.func113.trans (congrArg some (by kernel_rfl))
  f225 := Tryz.func112.trans (congrArg some (by kernel_rfl))
  f266 := Tryz.func104.trans (congrArg some (by kernel_rfl))
  f267 := Tryz.func114.trans (congrArg some (by kernel_rfl))
  f314 := Tryz.func128.trans (congrArg some (by kernel_rfl))
  t3 := Tryz.underlying3
  a3 := Tryz.isAgg3
  z3 := Tryz.sizeOf3
  v3 := Tryz.zeroValue3
  t4 := Tryz.underlying4
  a4 := Tryz.isAgg4
  z4 := Tryz.sizeOf4
  v4 := Tryz.zeroValue4
  t5 := Tryz.underlying5
  a5 := Tryz.isAgg5
  z5 := Tryz.sizeOf5
  v5 := Tryz.zeroValue5
  t9 := Tryz.underlying9
  a9 := Tryz.isAgg9
  z9 := Tryz.sizeOf9
  v9 := Tryz.zeroValue9
  t46 := Tryz.underlying155
  a46 := Tryz.isAgg155
  z46 := Tryz.sizeOf155
  v46 := Tryz.zeroValue155
  t51 := Tryz.underlying174
  a51 := Tryz.isAgg174
  z51 := Tryz.sizeOf174
  v51 := Tryz.zeroValue174
  t146 := Tryz.underlying175
  a146 := Tryz.isAgg175
  z146 := Tryz.sizeOf175
  v146 := Tryz.zeroValue175
  g1 := by kernel_rfl
  i3 := by kernel_rfl
  i4 := by kernel_rfl
  i5 := by kernel_rfl
  i9 := by kernel_rfl
  i46 := by kernel_rfl
  i51 := by kernel_rfl
  i146 := by kernel_rfl
  m1 := by kernel_rfl
  s1_3 := fun w h => Go.Proofs.cell_of_shapedOpen_int (zero := #[.int .i64 0]) (t := 3) h (of_decide_eq_true (by kernel_rfl)) (by kernel_rfl) rfl (by kernel_rfl) (by kernel_rfl) Tryz.underlying3 }
open Go.RowKit Go.Lib in
theorem Tryz.strings_Index_shaped (s sub : ByteArray) (w : World) (h : w.ShapedOpen Tryz.prog) (hs : s.size < 4294967281) :
    Calls Tryz.prog 89 #[.string s, .string sub] w fun e w' => e = .returned (.int .i64 (Lib.index s.data.toList sub.data.toList)) ∧ w' = w := Any.strings_Index_shaped Tryz.laysM143 s sub w h hs
def Tryz.laysM138_ren : Go.Shelf.Ren := ⟨fun | 138 => 88 | 195 => 100 | 218 => 102 | 143 => 89 | 219 => 103 | 217 => 92 | 225 => 112 | 224 => 113 | 267 => 114 | 266 => 104 | 314 => 128 | n => n, fun | 9 => 9 | 3 => 3 | 4 => 4 | 5 => 5 | 0 => 0 | 46 => 155 | 146 => 175 | 51 => 174 | n => n, fun | 1 => 0 | n => n⟩
theorem Tryz.laysM138 : Go.Proofs.LaysM.n138 Tryz.prog Tryz.laysM138_ren := {
  mixed := by kernel_rfl
  f138 := Tryz.func88.trans (congrArg some (by kernel_rfl))
  f143 := Tryz.func89.trans (congrArg some (by kernel_rfl))
  f195 := Tryz.func100.trans (congrArg some (by kernel_rfl))
  f217 := Tryz.func92.trans (congrArg some (by kernel_rfl))
  f218 := Tryz.func102.trans (congrArg some (by kernel_rfl))
  f219 := Tryz.func103.trans (congrArg some (by kernel_rfl))
  f224 := Tryz.func113.trans (congrArg some (by kernel_rfl))
  f225 := Tryz.func112.trans (congrArg some (by kernel_rfl))
  f266 := Tryz.func104.trans (congrArg some (by kernel_rfl))
  f267 := Tryz.func114.trans (congrArg some (by kernel_rfl))
  f314 := Tryz.func128.trans (congrArg some (by kernel_rfl))
  t0 := Tryz.underlying0
  a0 := Tryz.isAgg0
  z0 := Tryz.sizeOf0
  v0 := Tryz.zeroValue0
  t3 := Tryz.underlying3
  a3 := Tryz.isAgg3
  z3 := Tryz.sizeOf3
  v3 := Tryz.zeroValue3
  t4 := Tryz.underlying4
  a4 := Tryz.isAgg4
  z4 := Tryz.sizeOf4
  v4 := Tryz.zeroValue4
  t5 := Tryz.underlying5
  a5 := Tryz.isAgg5
  z5 := Tryz.sizeOf5
  v5 := Tryz.zeroValue5
  t9 := Tryz.underlying9
  a9 := Tryz.isAgg9
  z9 := Tryz.sizeOf9
  v9 := Tryz.zeroValue9
  t46 := Tryz.underlying155
  a46 := Tryz.isAgg155
  z46 := Tryz.sizeOf155
  v46 := Tryz.zeroValue155
  t51 := Tryz.underlying174
  a51 := Tryz.isAgg174
  z51 := Tryz.sizeOf174
  v51 := Tryz.zeroValue174
  t146 := Tryz.underlying175
  a146 := Tryz.isAgg175
  z146 := Tryz.sizeOf175
  v146 := Tryz.zeroValue175
  g1 := by kernel_rfl
  i0 := by kernel_rfl
  i3 := by kernel_rfl
  i4 := by kernel_rfl
  i5 := by kernel_rfl
  i9 := by kernel_rfl
  i46 := by kernel_rfl
  i51 := by kernel_rfl
  i146 := by kernel_rfl
  m1 := by kernel_rfl
  s1_3 := fun w h => Go.Proofs.cell_of_shapedOpen_int (zero := #[.int .i64 0]) (t := 3) h (of_decide_eq_true (by kernel_rfl)) (by kernel_rfl) rfl (by kernel_rfl) (by kernel_rfl) Tryz.underlying3 }
open Go.RowKit Go.Lib in
theorem Tryz.strings_Count_shaped (s sub : ByteArray) (w : World) (h : w.ShapedOpen Tryz.prog) (hs : s.size < 4294967281) (h2 : 2 ≤ sub.size) :
    Calls Tryz.prog 88 #[.string s, .string sub] w fun e w' => e = .returned (.int .i64 (Lib.countB s sub)) ∧ w' = w := Any.strings_Count_shaped Tryz.laysM138 s sub w h hs h2
open Go.RowKit Go.Lib in
/-- strings.Count at whatever sep that is not empty: the two roads under one statement. (LAID: no walk: one application.) -/
theorem Tryz.strings_Count_any (s sep : ByteArray) (m : Int) (w : World) (hs : s.size < 4294967281) (hm : w.cell? ⟨0, 0, none⟩ = some (.int .i64 m)) (h1 : 1 ≤ sep.size) :
    Calls Tryz.prog 88 #[.string s, .string sep] w fun e w' => e = .returned (.int .i64 (Lib.countB s sep)) ∧ w' = w := Any.strings_Count_any Tryz.lays138 s sep m w hs hm h1
def Tryz.lays221_ren : Go.Shelf.Ren := ⟨fun | 221 => 76 | 268 => 87 | 138 => 88 | 143 => 89 | 195 => 100 | 197 => 101 | 218 => 102 | 219 => 103 | 260 => 111 | 217 => 92 | 225 => 112 | 224 => 113 | 267 => 114 | 266 => 104 | 314 => 128 | n => n, fun | 9 => 9 | 3 => 3 | 31 => 41 | 4 => 4 | 0 => 0 | 105 => 143 | 21 => 21 | 5 => 5 | 46 => 155 | 119 => 170 | 139 => 173 | 138 => 172 | 146 => 175 | 51 => 174 | n => n, fun | 1 => 0 | 3 => 2 | 4 => 3 | n => n⟩
theorem Tryz.lays221 : Go.Proofs.Lays.n221 Tryz.prog Tryz.lays221_ren := {
  mixed := by kernel_rfl
  f138 := Tryz.func88.trans (congrArg some (by kernel_rfl))
  f143 := Tryz.func89.trans (congrArg some (by kernel_rfl))
  f195 := Tryz.func100.trans (congrArg some (by kernel_rfl))
  f197 := Tryz.func101.trans (congrArg some (by kernel_rfl))
  f217 := Tryz.func92.trans (congrArg some (by kernel_rfl))
  f218 := Tryz.func102.trans (congrArg some (by kernel_rfl))
  f219 := Tryz.func103.trans (congrArg some (by kernel_rfl))
  f221 := Tryz.func76.trans (congrArg some (by kernel_rfl))
  f224 := Tryz.func113.trans (congrArg some (by kernel_rfl))
  f225 := Tryz.func112.trans (congrArg some (by kernel_rfl))
  f260 := Tryz.func111.trans (congrArg some (by kernel_rfl))
  f266 := Tryz.func104.trans (congrArg some (by kernel_rfl))
  f267 := Tryz.func114.trans (congrArg some (by kernel_rfl))
  f268 := Tryz.func87.trans (congrArg some (by kernel_rfl))
  f314 := Tryz.func128.trans (congrArg some (by kernel_rfl))
  t0 := Tryz.underlying0
  a0 := Tryz.isAgg0
  z0 := Tryz.sizeOf0
  v0 := Tryz.zeroValue0
  t3 := Tryz.underlying3
  a3 := Tryz.isAgg3
  z3 := Tryz.sizeOf3
  v3 := Tryz.zeroValue3
  t4 := Tryz.underlying4
  a4 := Tryz.isAgg4
  z4 := Tryz.sizeOf4
  v4 := Tryz.zeroValue4
  t5 := Tryz.underlying5
  a5 := Tryz.isAgg5
  z5 := Tryz.sizeOf5
  v5 := Tryz.zeroValue5
  t9 := Tryz.underlying9
  a9 := Tryz.isAgg9
  z9 := Tryz.sizeOf9
  v9 := Tryz.zeroValue9
  t21 := Tryz.underlying21
  a21 := Tryz.isAgg21
  z21 := Tryz.sizeOf21
  v21 := Tryz.zeroValue21
  t31 := Tryz.underlying41
  a31 := Tryz.isAgg41
  z31 := Tryz.sizeOf41
  v31 := Tryz.zeroValue41
  t46 := Tryz.underlying155
  a46 := Tryz.isAgg155
  z46 := Tryz.sizeOf155
  v46 := Tryz.zeroValue155
  t51 := Tryz.underlying174
  a51 := Tryz.isAgg174
  z51 := Tryz.sizeOf174
  v51 := Tryz.zeroValue174
  t105 := Tryz.underlying143
  a105 := Tryz.isAgg143
  z105 := Tryz.sizeOf143
  v105 := Tryz.zeroValue143
  t119 := Tryz.underlying170
  a119 := Tryz.isAgg170
  z119 := Tryz.sizeOf170
  t138 := Tryz.underlying172
  a138 := Tryz.isAgg172
  z138 := Tryz.sizeOf172
  v138 := Tryz.zeroValue172
  t139 := Tryz.underlying173
  a139 := Tryz.isAgg173
  z139 := Tryz.sizeOf173
  v139 := Tryz.zeroValue173
  t146 := Tryz.underlying175
  a146 := Tryz.isAgg175
  z146 := Tryz.sizeOf175
  v146 := Tryz.zeroValue175
  g1 := by kernel_rfl
  g3 := by kernel_rfl
  g4 := by kernel_rfl }
open Go.RowKit Go.Lib in
theorem Tryz.strings_genSplit (s sep : ByteArray) (sv : Nat) (n : Int) (N : Nat) (m : Int) (w : World) (hs : s.size < 4294967281) (hm : w.cell? ⟨0, 0, none⟩ = some (.int .i64 m)) (h1 : 1 ≤ sep.size) (hsv : sv ≤ sep.size) (hn0 : n ≠ 0) (hn63 : n ≤ 9223372036854775807) (hN : (N : Int) = min (if n < 0 then (Lib.countB s sep : Int) + 1 else n) ((s.size : Int) + 1)) :
    Calls Tryz.prog 76 #[.string s, .string sep, .int .i64 sv, .int .i64 n] w fun e w' =>
      e = .returned (.slice (some ⟨w.heap.size, 0, none⟩) (Lib.splitB sep sv (N - 1) s).length N) ∧ w' = w.alloc (.cells (Lib.cellsOf (Lib.splitB sep sv (N - 1) s) N) 9) := Any.strings_genSplit Tryz.lays221 (by kernel_rfl) s sep sv n N m w hs hm h1 hsv hn0 hn63 hN
def Tryz.lays147_ren : Go.Shelf.Ren := ⟨fun | 147 => 65 | 221 => 76 | 268 => 87 | 138 => 88 | 143 => 89 | 195 => 100 | 197 => 101 | 218 => 102 | 219 => 103 | 260 => 111 | 217 => 92 | 225 => 112 | 224 => 113 | 267 => 114 | 266 => 104 | 314 => 128 | n => n, fun | 9 => 9 | 3 => 3 | 31 => 41 | 4 => 4 | 0 => 0 | 105 => 143 | 21 => 21 | 5 => 5 | 46 => 155 | 119 => 170 | 139 => 173 | 138 => 172 | 146 => 175 | 51 => 174 | n => n, fun | 1 => 0 | 3 => 2 | 4 => 3 | n => n⟩
theorem Tryz.lays147 : Go.Proofs.Lays.n147 Tryz.prog Tryz.lays147_ren := {
  mixed := by kernel_rfl
  f138 := Tryz.func88.trans (congrArg some (by kernel_rfl))
  f143 := Tryz.func89.trans (congrArg some (by kernel_rfl))
  f147 := Tryz.func65.trans (congrArg some (by kernel_rfl))
  f195 := Tryz.func100.trans (congrArg some (by kernel_rfl))
  f197 := Tryz.func101.trans (congrArg some (by kernel_rfl))
  f217 := Tryz.func92.trans (congrArg some (by kernel_rfl))
  f218 := Tryz.func102.trans (congrArg some (by kernel_rfl))
  f219 := Tryz.func103.trans (congrArg some (by kernel_rfl))
  f221 := Tryz.func76.trans (congrArg some (by kernel_rfl))
  f224 := Tryz.func113.trans (congrArg some (by kernel_rfl))
  f225 := Tryz.func112.trans (congrArg some (by kernel_rfl))
  f260 := Tryz.func111.trans (congrArg some (by kernel_rfl))
  f266 := Tryz.func104.trans (congrArg some (by kernel_rfl))
  f267 := Tryz.func114.trans (congrArg some (by kernel_rfl))
  f268 := Tryz.func87.trans (congrArg some (by kernel_rfl))
  f314 := Tryz.func128.trans (congrArg some (by kernel_rfl))
  t0 := Tryz.underlying0
  a0 := Tryz.isAgg0
  z0 := Tryz.sizeOf0
  v0 := Tryz.zeroValue0
  t3 := Tryz.underlying3
  a3 := Tryz.isAgg3
  z3 := Tryz.sizeOf3
  v3 := Tryz.zeroValue3
  t4 := Tryz.underlying4
  a4 := Tryz.isAgg4
  z4 := Tryz.sizeOf4
  v4 := Tryz.zeroValue4
  t5 := Tryz.underlying5
  a5 := Tryz.isAgg5
  z5 := Tryz.sizeOf5
  v5 := Tryz.zeroValue5
  t9 := Tryz.underlying9
  a9 := Tryz.isAgg9
  z9 := Tryz.sizeOf9
  v9 := Tryz.zeroValue9
  t21 := Tryz.underlying21
  a21 := Tryz.isAgg21
  z21 := Tryz.sizeOf21
  v21 := Tryz.zeroValue21
  t31 := Tryz.underlying41
  a31 := Tryz.isAgg41
  z31 := Tryz.sizeOf41
  v31 := Tryz.zeroValue41
  t46 := Tryz.underlying155
  a46 := Tryz.isAgg155
  z46 := Tryz.sizeOf155
  v46 := Tryz.zeroValue155
  t51 := Tryz.underlying174
  a51 := Tryz.isAgg174
  z51 := Tryz.sizeOf174
  v51 := Tryz.zeroValue174
  t105 := Tryz.underlying143
  a105 := Tryz.isAgg143
  z105 := Tryz.sizeOf143
  v105 := Tryz.zeroValue143
  t119 := Tryz.underlying170
  a119 := Tryz.isAgg170
  z119 := Tryz.sizeOf170
  t138 := Tryz.underlying172
  a138 := Tryz.isAgg172
  z138 := Tryz.sizeOf172
  v138 := Tryz.zeroValue172
  t139 := Tryz.underlying173
  a139 := Tryz.isAgg173
  z139 := Tryz.sizeOf173
  v139 := Tryz.zeroValue173
  t146 := Tryz.underlying175
  a146 := Tryz.isAgg175
  z146 := Tryz.sizeOf175
  v146 := Tryz.zeroValue175
  g1 := by kernel_rfl
  g3 := by kernel_rfl
  g4 := by kernel_rfl }
open Go.RowKit Go.Lib in
/-- strings.SplitN, n > 0. (LAID: no walk: one application.) -/
theorem Tryz.strings_SplitN (s sep : ByteArray) (n : Nat) (m : Int) (w : World) (hs : s.size < 4294967281) (hm : w.cell? ⟨0, 0, none⟩ = some (.int .i64 m)) (h1 : 1 ≤ sep.size) (hn : 1 ≤ n) (hn63 : n ≤ 9223372036854775807) :
    Calls Tryz.prog 65 #[.string s, .string sep, .int .i64 n] w fun e w' =>
      e = .returned (.slice (some ⟨w.heap.size, 0, none⟩) (Lib.splitB sep 0 (min n (s.size + 1) - 1) s).length (min n (s.size + 1))) ∧ w' = w.alloc (.cells (Lib.cellsOf (Lib.splitB sep 0 (min n (s.size + 1) - 1) s) (min n (s.size + 1))) 9) := Any.strings_SplitN Tryz.lays147 (by kernel_rfl) s sep n m w hs hm h1 hn hn63
def Tryz.laysM147_ren : Go.Shelf.Ren := ⟨fun | 147 => 65 | 221 => 76 | 268 => 87 | 138 => 88 | 143 => 89 | 195 => 100 | 197 => 101 | 218 => 102 | 219 => 103 | 260 => 111 | 217 => 92 | 225 => 112 | 224 => 113 | 267 => 114 | 266 => 104 | 314 => 128 | n => n, fun | 9 => 9 | 3 => 3 | 31 => 41 | 4 => 4 | 0 => 0 | 105 => 143 | 21 => 21 | 5 => 5 | 46 => 155 | 119 => 170 | 139 => 173 | 138 => 172 | 146 => 175 | 51 => 174 | n => n, fun | 1 => 0 | 3 => 2 | 4 => 3 | n => n⟩
theorem Tryz.laysM147 : Go.Proofs.LaysM.n147 Tryz.prog Tryz.laysM147_ren := {
  mixed := by kernel_rfl
  f138 := Tryz.func88.trans (congrArg some (by kernel_rfl))
  f143 := Tryz.func89.trans (congrArg some (by kernel_rfl))
  f147 := Tryz.func65.trans (congrArg some (by kernel_rfl))
  f195 := Tryz.func100.trans (congrArg some (by kernel_rfl))
  f197 := Tryz.func101.trans (congrArg some (by kernel_rfl))
  f217 := Tryz.func92.trans (congrArg some (by kernel_rfl))
  f218 := Tryz.func102.trans (congrArg some (by kernel_rfl))
  f219 := Tryz.func103.trans (congrArg some (by kernel_rfl))
  f221 := Tryz.func76.trans (congrArg some (by kernel_rfl))
  f224 := Tryz.func113.trans (congrArg some (by kernel_rfl))
  f225 := Tryz.func112.trans (congrArg some (by kernel_rfl))
  f260 := Tryz.func111.trans (congrArg some (by kernel_rfl))
  f266 := Tryz.func104.trans (congrArg some (by kernel_rfl))
  f267 := Tryz.func114.trans (congrArg some (by kernel_rfl))
  f268 := Tryz.func87.trans (congrArg some (by kernel_rfl))
  f314 := Tryz.func128.trans (congrArg some (by kernel_rfl))
  t0 := Tryz.underlying0
  a0 := Tryz.isAgg0
  z0 := Tryz.sizeOf0
  v0 := Tryz.zeroValue0
  t3 := Tryz.underlying3
  a3 := Tryz.isAgg3
  z3 := Tryz.sizeOf3
  v3 := Tryz.zeroValue3
  t4 := Tryz.underlying4
  a4 := Tryz.isAgg4
  z4 := Tryz.sizeOf4
  v4 := Tryz.zeroValue4
  t5 := Tryz.underlying5
  a5 := Tryz.isAgg5
  z5 := Tryz.sizeOf5
  v5 := Tryz.zeroValue5
  t9 := Tryz.underlying9
  a9 := Tryz.isAgg9
  z9 := Tryz.sizeOf9
  v9 := Tryz.zeroValue9
  t21 := Tryz.underlying21
  a21 := Tryz.isAgg21
  z21 := Tryz.sizeOf21
  v21 := Tryz.zeroValue21
  t31 := Tryz.underlying41
  a31 := Tryz.isAgg41
  z31 := Tryz.sizeOf41
  v31 := Tryz.zeroValue41
  t46 := Tryz.underlying155
  a46 := Tryz.isAgg155
  z46 := Tryz.sizeOf155
  v46 := Tryz.zeroValue155
  t51 := Tryz.underlying174
  a51 := Tryz.isAgg174
  z51 := Tryz.sizeOf174
  v51 := Tryz.zeroValue174
  t105 := Tryz.underlying143
  a105 := Tryz.isAgg143
  z105 := Tryz.sizeOf143
  v105 := Tryz.zeroValue143
  t119 := Tryz.underlying170
  a119 := Tryz.isAgg170
  z119 := Tryz.sizeOf170
  t138 := Tryz.underlying172
  a138 := Tryz.isAgg172
  z138 := Tryz.sizeOf172
  v138 := Tryz.zeroValue172
  t139 := Tryz.underlying173
  a139 := Tryz.isAgg173
  z139 := Tryz.sizeOf173
  v139 := Tryz.zeroValue173
  t146 := Tryz.underlying175
  a146 := Tryz.isAgg175
  z146 := Tryz.sizeOf175
  v146 := Tryz.zeroValue175
  g1 := by kernel_rfl
  g3 := by kernel_rfl
  g4 := by kernel_rfl
  i0 := by kernel_rfl
  i3 := by kernel_rfl
  i4 := by kernel_rfl
  i5 := by kernel_rfl
  i9 := by kernel_rfl
  i21 := by kernel_rfl
  i31 := by kernel_rfl
  i46 := by kernel_rfl
  i51 := by kernel_rfl
  i105 := by kernel_rfl
  i138 := by kernel_rfl
  i139 := by kernel_rfl
  i146 := by kernel_rfl
  m1 := by kernel_rfl
  s1_3 := fun w h => Go.Proofs.cell_of_shapedOpen_int (zero := #[.int .i64 0]) (t := 3) h (of_decide_eq_true (by kernel_rfl)) (by kernel_rfl) rfl (by kernel_rfl) (by kernel_rfl) Tryz.underlying3
  m3 := by kernel_rfl
  m4 := by kernel_rfl }
open Go.RowKit Go.Lib in
/-- strings.SplitN, sep not empty, n > 0. (LAID: no walk: one application.) -/
theorem Tryz.strings_SplitN_shaped (s sep : ByteArray) (n : Nat) (w : World) (h : w.ShapedOpen Tryz.prog) (hs : s.size < 4294967281) (h1 : 1 ≤ sep.size) (hn : 1 ≤ n) (hn63 : n ≤ 9223372036854775807) :
    Calls Tryz.prog 65 #[.string s, .string sep, .int .i64 n] w fun e w' =>
      e = .returned (.slice (some ⟨w.heap.size, 0, none⟩) (Lib.splitB sep 0 (min n (s.size + 1) - 1) s).length (min n (s.size + 1))) ∧ w' = w.alloc (.cells (Lib.cellsOf (Lib.splitB sep 0 (min n (s.size + 1) - 1) s) (min n (s.size + 1))) 9) := Any.strings_SplitN_shaped Tryz.laysM147 s sep n w h hs h1 hn hn63
def Tryz.lays203_ren : Go.Shelf.Ren := ⟨fun | 203 => 94 | 262 => 108 | 313 => 116 | 274 => 130 | 275 => 131 | n => n, fun | 21 => 21 | 4 => 4 | 3 => 3 | 162 => 159 | 203 => 157 | 160 => 177 | 46 => 155 | 0 => 0 | 208 => 188 | 51 => 174 | 206 => 186 | n => n, fun | 13 => 1 | n => n⟩
theorem Tryz.lays203 : Go.Proofs.Lays.n203 Tryz.prog Tryz.lays203_ren := {
  mixed := by kernel_rfl
  f203 := Tryz.func94.trans (congrArg some (by kernel_rfl))
  f262 := Tryz.func108.trans (congrArg some (by kernel_rfl))
  f274 := Tryz.func130.trans (congrArg some (by kernel_rfl))
  f275 := Tryz.func131.trans (congrArg some (by kernel_rfl))
  f313 := Tryz.func116.trans (congrArg some (by kernel_rfl))
  t0 := Tryz.underlying0
  a0 := Tryz.isAgg0
  z0 := Tryz.sizeOf0
  v0 := Tryz.zeroValue0
  t3 := Tryz.underlying3
  a3 := Tryz.isAgg3
  z3 := Tryz.sizeOf3
  v3 := Tryz.zeroValue3
  t4 := Tryz.underlying4
  a4 := Tryz.isAgg4
  z4 := Tryz.sizeOf4
  v4 := Tryz.zeroValue4
  t21 := Tryz.underlying21
  a21 := Tryz.isAgg21
  z21 := Tryz.sizeOf21
  v21 := Tryz.zeroValue21
  t46 := Tryz.underlying155
  a46 := Tryz.isAgg155
  z46 := Tryz.sizeOf155
  v46 := Tryz.zeroValue155
  t51 := Tryz.underlying174
  a51 := Tryz.isAgg174
  z51 := Tryz.sizeOf174
  v51 := Tryz.zeroValue174
  t160 := Tryz.underlying177
  a160 := Tryz.isAgg177
  z160 := Tryz.sizeOf177
  v160 := Tryz.zeroValue177
  t162 := Tryz.underlying159
  a162 := Tryz.isAgg159
  z162 := Tryz.sizeOf159
  v162 := Tryz.zeroValue159
  t203 := Tryz.underlying157
  a203 := Tryz.isAgg157
  z203 := Tryz.sizeOf157
  v203 := Tryz.zeroValue157
  t206 := Tryz.underlying186
  a206 := Tryz.isAgg186
  z206 := Tryz.sizeOf186
  v206 := Tryz.zeroValue186
  t208 := Tryz.underlying188
  a208 := Tryz.isAgg188
  z208 := Tryz.sizeOf188
  v208 := Tryz.zeroValue188
  g13 := by kernel_rfl }
open Go.RowKit Go.Lib in
theorem Tryz.unicode_ToUpper (r : Int) (w : World) (h : r ≤ 127) :
    Calls Tryz.prog 94 #[.int .i32 r] w fun e w' => e = .returned (.int .i32 (Lib.toUpperR r)) ∧ w' = w := Any.unicode_ToUpper Tryz.lays203 r w h
def Tryz.lays197_ren : Go.Shelf.Ren := ⟨fun | 197 => 101 | 260 => 111 | n => n, fun | 9 => 9 | 21 => 21 | 3 => 3 | 4 => 4 | 5 => 5 | 105 => 143 | 119 => 170 | 0 => 0 | 46 => 155 | 139 => 173 | 138 => 172 | n => n, fun | 3 => 2 | 4 => 3 | n => n⟩
theorem Tryz.lays197 : Go.Proofs.Lays.n197 Tryz.prog Tryz.lays197_ren := {
  mixed := by kernel_rfl
  f197 := Tryz.func101.trans (congrArg some (by kernel_rfl))
  f260 := Tryz.func111.trans (congrArg some (by kernel_rfl))
  t0 := Tryz.underlying0
  a0 := Tryz.isAgg0
  z0 := Tryz.sizeOf0
  v0 := Tryz.zeroValue0
  t3 := Tryz.underlying3
  a3 := Tryz.isAgg3
  z3 := Tryz.sizeOf3
  v3 := Tryz.zeroValue3
  t4 := Tryz.underlying4
  a4 := Tryz.isAgg4
  z4 := Tryz.sizeOf4
  v4 := Tryz.zeroValue4
  t5 := Tryz.underlying5
  a5 := Tryz.isAgg5
  z5 := Tryz.sizeOf5
  v5 := Tryz.zeroValue5
  t9 := Tryz.underlying9
  a9 := Tryz.isAgg9
  z9 := Tryz.sizeOf9
  v9 := Tryz.zeroValue9
  t21 := Tryz.underlying21
  a21 := Tryz.isAgg21
  z21 := Tryz.sizeOf21
  v21 := Tryz.zeroValue21
  t46 := Tryz.underlying155
  a46 := Tryz.isAgg155
  z46 := Tryz.sizeOf155
  v46 := Tryz.zeroValue155
  t105 := Tryz.underlying143
  a105 := Tryz.isAgg143
  z105 := Tryz.sizeOf143
  v105 := Tryz.zeroValue143
  t119 := Tryz.underlying170
  a119 := Tryz.isAgg170
  z119 := Tryz.sizeOf170
  t138 := Tryz.underlying172
  a138 := Tryz.isAgg172
  z138 := Tryz.sizeOf172
  v138 := Tryz.zeroValue172
  t139 := Tryz.underlying173
  a139 := Tryz.isAgg173
  z139 := Tryz.sizeOf173
  v139 := Tryz.zeroValue173
  g3 := by kernel_rfl
  g4 := by kernel_rfl }
open Go.RowKit Go.Lib in
/-- unicode/utf8.DecodeRuneInString: "DecodeRuneInString is like DecodeRune but its input is a string.": ("DecodeRune unpacks the first UTF-8 encoding in p and returns the rune and its width in bytes."): WHERE s BEGINS WITH AN ASCII BYTE x: (x, 1). (LAID: no walk: one application.) -/
theorem Tryz.utf8_DecodeRuneInString_ascii (s : ByteArray) (x : UInt8) (w : World) (h0 : s.data.toList[0]? = some x) (hx : x.toNat < 128) :
    Calls Tryz.prog 101 #[.string s] w fun e w' => e = .returned (.tuple #[.int .i32 x.toNat, .int .i64 1]) ∧ w' = w := Any.utf8_DecodeRuneInString_ascii Tryz.lays197 s x w h0 hx
def Tryz.lays195_ren : Go.Shelf.Ren := ⟨fun | 195 => 100 | n => n, fun | 9 => 9 | 3 => 3 | 0 => 0 | 4 => 4 | n => n, fun | n => n⟩
theorem Tryz.lays195 : Go.Proofs.Lays.n195 Tryz.prog Tryz.lays195_ren := {
  mixed := by kernel_rfl
  f195 := Tryz.func100.trans (congrArg some (by kernel_rfl))
  t0 := Tryz.underlying0
  a0 := Tryz.isAgg0
  z0 := Tryz.sizeOf0
  v0 := Tryz.zeroValue0
  t3 := Tryz.underlying3
  a3 := Tryz.isAgg3
  z3 := Tryz.sizeOf3
  v3 := Tryz.zeroValue3
  t4 := Tryz.underlying4
  a4 := Tryz.isAgg4
  z4 := Tryz.sizeOf4
  v4 := Tryz.zeroValue4
  t9 := Tryz.underlying9
  a9 := Tryz.isAgg9
  z9 := Tryz.sizeOf9
  v9 := Tryz.zeroValue9 }
open Go.RowKit Go.Lib in
theorem Tryz.utf8_RuneCountInString_ascii (s : ByteArray) (w : World) (hs : s.size < 4294967281) (hascii : ∀ (j : Nat) b, s.data.toList[j]? = some b → b.toNat < 128) :
    Calls Tryz.prog 100 #[.string s] w fun e w' => e = .returned (.int .i64 s.size) ∧ w' = w.iter s s.size := Any.utf8_RuneCountInString_ascii Tryz.lays195 s w hs hascii
def Tryz.lays268_ren : Go.Shelf.Ren := ⟨fun | 268 => 87 | 195 => 100 | 197 => 101 | 260 => 111 | n => n, fun | 9 => 9 | 3 => 3 | 31 => 41 | 4 => 4 | 105 => 143 | 21 => 21 | 0 => 0 | 5 => 5 | 119 => 170 | 46 => 155 | 139 => 173 | 138 => 172 | n => n, fun | 3 => 2 | 4 => 3 | n => n⟩
theorem Tryz.lays268 : Go.Proofs.Lays.n268 Tryz.prog Tryz.lays268_ren := {
  mixed := by kernel_rfl
  f195 := Tryz.func100.trans (congrArg some (by kernel_rfl))
  f197 := Tryz.func101.trans (congrArg some (by kernel_rfl))
  f260 := Tryz.func111.trans (congrArg some (by kernel_rfl))
  f268 := Tryz.func87.trans (congrArg some (by kernel_rfl))
  t0 := Tryz.underlying0
  a0 := Tryz.isAgg0
  z0 := Tryz.sizeOf0
  v0 := Tryz.zeroValue0
  t3 := Tryz.underlying3
  a3 := Tryz.isAgg3
  z3 := Tryz.sizeOf3
  v3 := Tryz.zeroValue3
  t4 := Tryz.underlying4
  a4 := Tryz.isAgg4
  z4 := Tryz.sizeOf4
  v4 := Tryz.zeroValue4
  t5 := Tryz.underlying5
  a5 := Tryz.isAgg5
  z5 := Tryz.sizeOf5
  v5 := Tryz.zeroValue5
  t9 := Tryz.underlying9
  a9 := Tryz.isAgg9
  z9 := Tryz.sizeOf9
  v9 := Tryz.zeroValue9
  t21 := Tryz.underlying21
  a21 := Tryz.isAgg21
  z21 := Tryz.sizeOf21
  v21 := Tryz.zeroValue21
  t31 := Tryz.underlying41
  a31 := Tryz.isAgg41
  z31 := Tryz.sizeOf41
  v31 := Tryz.zeroValue41
  t46 := Tryz.underlying155
  a46 := Tryz.isAgg155
  z46 := Tryz.sizeOf155
  v46 := Tryz.zeroValue155
  t105 := Tryz.underlying143
  a105 := Tryz.isAgg143
  z105 := Tryz.sizeOf143
  v105 := Tryz.zeroValue143
  t119 := Tryz.underlying170
  a119 := Tryz.isAgg170
  z119 := Tryz.sizeOf170
  t138 := Tryz.underlying172
  a138 := Tryz.isAgg172
  z138 := Tryz.sizeOf172
  v138 := Tryz.zeroValue172
  t139 := Tryz.underlying173
  a139 := Tryz.isAgg173
  z139 := Tryz.sizeOf173
  v139 := Tryz.zeroValue173
  g3 := by kernel_rfl
  g4 := by kernel_rfl }
open Go.RowKit Go.Lib in
theorem Tryz.strings_explode_all (s : ByteArray) (n : Int) (w : World) (hn : n < 0) (hs : s.size < 4294967281) (hascii : ∀ (j : Nat) b, s.data.toList[j]? = some b → b.toNat < 128) :
    Calls Tryz.prog 87 #[.string s, .int .i64 n] w fun e w' =>
      e = .returned (.slice (some ⟨(w.iter s s.size).heap.size, 0, none⟩) s.size s.size) ∧ w' = (w.iter s s.size).alloc (.cells ((Lib.charsB s).map Value.string).toArray 9) := Any.strings_explode_all Tryz.lays268 (by kernel_rfl) s n w hn hs hascii
open Go.RowKit Go.Lib in
/-- strings.genSplit at sep == "", n < 0: 'return explode(s, n)'. (LAID: no walk: one application.) -/
theorem Tryz.strings_genSplit_chars (s sep : ByteArray) (sv n : Int) (w : World) (h0 : sep.size = 0) (hn : n < 0) (hs : s.size < 4294967281) (hascii : ∀ (j : Nat) b, s.data.toList[j]? = some b → b.toNat < 128) :
    Calls Tryz.prog 76 #[.string s, .string sep, .int .i64 sv, .int .i64 n] w fun e w' =>
      e = .returned (.slice (some ⟨(w.iter s s.size).heap.size, 0, none⟩) s.size s.size) ∧ w' = (w.iter s s.size).alloc (.cells ((Lib.charsB s).map Value.string).toArray 9) := Any.strings_genSplit_chars Tryz.lays221 (by kernel_rfl) s sep sv n w h0 hn hs hascii
def Tryz.lays260_ren : Go.Shelf.Ren := ⟨fun | 260 => 111 | n => n, fun | 9 => 9 | 21 => 21 | 3 => 3 | 4 => 4 | 5 => 5 | 119 => 170 | 0 => 0 | 46 => 155 | 139 => 173 | 138 => 172 | n => n, fun | 3 => 2 | 4 => 3 | n => n⟩
theorem Tryz.lays260 : Go.Proofs.Lays.n260 Tryz.prog Tryz.lays260_ren := {
  mixed := by kernel_rfl
  f260 := Tryz.func111.trans (congrArg some (by kernel_rfl))
  t0 := Tryz.underlying0
  a0 := Tryz.isAgg0
  z0 := Tryz.sizeOf0
  v0 := Tryz.zeroValue0
  t3 := Tryz.underlying3
  a3 := Tryz.isAgg3
  z3 := Tryz.sizeOf3
  v3 := Tryz.zeroValue3
  t4 := Tryz.underlying4
  a4 := Tryz.isAgg4
  z4 := Tryz.sizeOf4
  v4 := Tryz.zeroValue4
  t5 := Tryz.underlying5
  a5 := Tryz.isAgg5
  z5 := Tryz.sizeOf5
  v5 := Tryz.zeroValue5
  t9 := Tryz.underlying9
  a9 := Tryz.isAgg9
  z9 := Tryz.sizeOf9
  v9 := Tryz.zeroValue9
  t21 := Tryz.underlying21
  a21 := Tryz.isAgg21
  z21 := Tryz.sizeOf21
  v21 := Tryz.zeroValue21
  t46 := Tryz.underlying155
  a46 := Tryz.isAgg155
  z46 := Tryz.sizeOf155
  v46 := Tryz.zeroValue155
  t119 := Tryz.underlying170
  a119 := Tryz.isAgg170
  z119 := Tryz.sizeOf170
  t138 := Tryz.underlying172
  a138 := Tryz.isAgg172
  z138 := Tryz.sizeOf172
  v138 := Tryz.zeroValue172
  t139 := Tryz.underlying173
  a139 := Tryz.isAgg173
  z139 := Tryz.sizeOf173
  v139 := Tryz.zeroValue173
  g3 := by kernel_rfl
  g4 := by kernel_rfl }
open Go.RowKit Go.Lib in
theorem Tryz.utf8_decodeRuneInStringSlow (s : ByteArray) (w : World) (hT : Lib.Utf8Tabs 2 3 w) :
    Calls Tryz.prog 111 #[.string s] w fun e w' => e = .returned (.tuple #[.int .i32 (Lib.decodeGo s).1, .int .i64 (Lib.decodeGo s).2]) ∧ Below w.heap.size w w' := Any.utf8_decodeRuneInStringSlow Tryz.lays260 s w hT
open Go.RowKit Go.Lib in
/-- **unicode/utf8.DecodeRuneInString AT EVERY STRING.** (LAID: no walk: one application.) -/
theorem Tryz.utf8_DecodeRuneInString (s : ByteArray) (w : World) (hT : Lib.Utf8Tabs 2 3 w) :
    Calls Tryz.prog 101 #[.string s] w fun e w' => e = .returned (.tuple #[.int .i32 (Lib.decodeGo s).1, .int .i64 (Lib.decodeGo s).2]) ∧ Below w.heap.size w w' := Any.utf8_DecodeRuneInString Tryz.lays197 s w hT
def Tryz.lays274_ren : Go.Shelf.Ren := ⟨fun | 274 => 130 | n => n, fun | 21 => 21 | 162 => 159 | 160 => 177 | 3 => 3 | 4 => 4 | 46 => 155 | 0 => 0 | 208 => 188 | 51 => 174 | 206 => 186 | n => n, fun | n => n⟩
theorem Tryz.lays274 : Go.Proofs.Lays.n274 Tryz.prog Tryz.lays274_ren := {
  mixed := by kernel_rfl
  f274 := Tryz.func130.trans (congrArg some (by kernel_rfl))
  t0 := Tryz.underlying0
  a0 := Tryz.isAgg0
  z0 := Tryz.sizeOf0
  v0 := Tryz.zeroValue0
  t3 := Tryz.underlying3
  a3 := Tryz.isAgg3
  z3 := Tryz.sizeOf3
  v3 := Tryz.zeroValue3
  t4 := Tryz.underlying4
  a4 := Tryz.isAgg4
  z4 := Tryz.sizeOf4
  v4 := Tryz.zeroValue4
  t21 := Tryz.underlying21
  a21 := Tryz.isAgg21
  z21 := Tryz.sizeOf21
  v21 := Tryz.zeroValue21
  t46 := Tryz.underlying155
  a46 := Tryz.isAgg155
  z46 := Tryz.sizeOf155
  v46 := Tryz.zeroValue155
  t51 := Tryz.underlying174
  a51 := Tryz.isAgg174
  z51 := Tryz.sizeOf174
  v51 := Tryz.zeroValue174
  t160 := Tryz.underlying177
  a160 := Tryz.isAgg177
  z160 := Tryz.sizeOf177
  v160 := Tryz.zeroValue177
  t162 := Tryz.underlying159
  a162 := Tryz.isAgg159
  z162 := Tryz.sizeOf159
  v162 := Tryz.zeroValue159
  t208 := Tryz.underlying188
  a208 := Tryz.isAgg188
  z208 := Tryz.sizeOf188
  v208 := Tryz.zeroValue188 }
open Go.RowKit Go.Lib in
theorem Tryz.unicode_lookupCaseRange (T : Array CaseRow) (R oR cap : Nat) (r : Int) (w : World) (hT : CaseTab R oR T w) (hok : CaseOk T) (hn : T.size ≤ 1000000000) :
    Calls Tryz.prog 130 #[.int .i32 r, .slice (some ⟨R, oR, none⟩) T.size cap] w fun e w' =>
      e = .returned (match lookupIdx T r (T.size + 1) 0 T.size with | some i => .pointer (some ⟨R, oR + i * 5, none⟩) | none => .pointer none) ∧ w' = w := Any.unicode_lookupCaseRange Tryz.lays274 T R oR cap r w hT hok hn
def Tryz.lays275_ren : Go.Shelf.Ren := ⟨fun | 275 => 131 | n => n, fun | 3 => 3 | 21 => 21 | 160 => 177 | 0 => 0 | 208 => 188 | 206 => 186 | 4 => 4 | 51 => 174 | n => n, fun | n => n⟩
theorem Tryz.lays275 : Go.Proofs.Lays.n275 Tryz.prog Tryz.lays275_ren := {
  mixed := by kernel_rfl
  f275 := Tryz.func131.trans (congrArg some (by kernel_rfl))
  t0 := Tryz.underlying0
  a0 := Tryz.isAgg0
  z0 := Tryz.sizeOf0
  v0 := Tryz.zeroValue0
  t3 := Tryz.underlying3
  a3 := Tryz.isAgg3
  z3 := Tryz.sizeOf3
  v3 := Tryz.zeroValue3
  t4 := Tryz.underlying4
  a4 := Tryz.isAgg4
  z4 := Tryz.sizeOf4
  v4 := Tryz.zeroValue4
  t21 := Tryz.underlying21
  a21 := Tryz.isAgg21
  z21 := Tryz.sizeOf21
  v21 := Tryz.zeroValue21
  t51 := Tryz.underlying174
  a51 := Tryz.isAgg174
  z51 := Tryz.sizeOf174
  v51 := Tryz.zeroValue174
  t160 := Tryz.underlying177
  a160 := Tryz.isAgg177
  z160 := Tryz.sizeOf177
  v160 := Tryz.zeroValue177
  t206 := Tryz.underlying186
  a206 := Tryz.isAgg186
  z206 := Tryz.sizeOf186
  v206 := Tryz.zeroValue186
  t208 := Tryz.underlying188
  a208 := Tryz.isAgg188
  z208 := Tryz.sizeOf188
  v208 := Tryz.zeroValue188 }
open Go.RowKit Go.Lib in
theorem Tryz.unicode_convertCase (c : Nat) (hc : c < 3) (r : Int) (A o : Nat) (x : CaseRow) (w : World) (hlo : (x.1 : Int) ≤ r) (hhi : r ≤ (x.2.1 : Int)) (hH : x.2.1 < 2147483647) (c0 : w.cell? ⟨A, o, none⟩ = some (.int .u32 x.1)) (cD : w.cell? ⟨A, o + 2 + c, none⟩ = some (.int .i32 (x.delta c))) :
    Calls Tryz.prog 131 #[.int .i64 c, .int .i32 r, .pointer (some ⟨A, o, none⟩)] w fun e w' => e = .returned (.int .i32 (wrap32 (convertR c r x))) ∧ ∃ q, w' = w.drewN q := Any.unicode_convertCase Tryz.lays275 c hc r A o x w hlo hhi hH c0 cD
def Tryz.lays313_ren : Go.Shelf.Ren := ⟨fun | 313 => 116 | 274 => 130 | 275 => 131 | n => n, fun | 3 => 3 | 21 => 21 | 162 => 159 | 4 => 4 | 160 => 177 | 46 => 155 | 0 => 0 | 208 => 188 | 51 => 174 | 206 => 186 | n => n, fun | n => n⟩
theorem Tryz.lays313 : Go.Proofs.Lays.n313 Tryz.prog Tryz.lays313_ren := {
  mixed := by kernel_rfl
  f274 := Tryz.func130.trans (congrArg some (by kernel_rfl))
  f275 := Tryz.func131.trans (congrArg some (by kernel_rfl))
  f313 := Tryz.func116.trans (congrArg some (by kernel_rfl))
  t0 := Tryz.underlying0
  a0 := Tryz.isAgg0
  z0 := Tryz.sizeOf0
  v0 := Tryz.zeroValue0
  t3 := Tryz.underlying3
  a3 := Tryz.isAgg3
  z3 := Tryz.sizeOf3
  v3 := Tryz.zeroValue3
  t4 := Tryz.underlying4
  a4 := Tryz.isAgg4
  z4 := Tryz.sizeOf4
  v4 := Tryz.zeroValue4
  t21 := Tryz.underlying21
  a21 := Tryz.isAgg21
  z21 := Tryz.sizeOf21
  v21 := Tryz.zeroValue21
  t46 := Tryz.underlying155
  a46 := Tryz.isAgg155
  z46 := Tryz.sizeOf155
  v46 := Tryz.zeroValue155
  t51 := Tryz.underlying174
  a51 := Tryz.isAgg174
  z51 := Tryz.sizeOf174
  v51 := Tryz.zeroValue174
  t160 := Tryz.underlying177
  a160 := Tryz.isAgg177
  z160 := Tryz.sizeOf177
  v160 := Tryz.zeroValue177
  t162 := Tryz.underlying159
  a162 := Tryz.isAgg159
  z162 := Tryz.sizeOf159
  v162 := Tryz.zeroValue159
  t206 := Tryz.underlying186
  a206 := Tryz.isAgg186
  z206 := Tryz.sizeOf186
  v206 := Tryz.zeroValue186
  t208 := Tryz.underlying188
  a208 := Tryz.isAgg188
  z208 := Tryz.sizeOf188
  v208 := Tryz.zeroValue188 }
open Go.RowKit Go.Lib in
theorem Tryz.unicode_to (c : Nat) (hc : c < 3) (r : Int) (T : Array CaseRow) (R oR cap : Nat) (w : World) (hT : CaseTab R oR T w) (hok : CaseOk2 T) (hn : T.size ≤ 1000000000) :
    Calls Tryz.prog 116 #[.int .i64 c, .int .i32 r, .slice (some ⟨R, oR, none⟩) T.size cap] w fun e w' => e = .returned (.tuple #[.int .i32 (toW T c r), .bool (lookupIdx T r (T.size + 1) 0 T.size).isSome]) ∧ ∃ q, w' = w.drewN q := Any.unicode_to Tryz.lays313 c hc r T R oR cap w hT hok hn
def Tryz.lays262_ren : Go.Shelf.Ren := ⟨fun | 262 => 108 | 313 => 116 | 274 => 130 | 275 => 131 | n => n, fun | 3 => 3 | 21 => 21 | 162 => 159 | 203 => 157 | 4 => 4 | 160 => 177 | 46 => 155 | 0 => 0 | 208 => 188 | 51 => 174 | 206 => 186 | n => n, fun | 13 => 1 | n => n⟩
theorem Tryz.lays262 : Go.Proofs.Lays.n262 Tryz.prog Tryz.lays262_ren := {
  mixed := by kernel_rfl
  f262 := Tryz.func108.trans (congrArg some (by kernel_rfl))
  f274 := Tryz.func130.trans (congrArg some (by kernel_rfl))
  f275 := Tryz.func131.trans (congrArg some (by kernel_rfl))
  f313 := Tryz.func116.trans (congrArg some (by kernel_rfl))
  t0 := Tryz.underlying0
  a0 := Tryz.isAgg0
  z0 := Tryz.sizeOf0
  v0 := Tryz.zeroValue0
  t3 := Tryz.underlying3
  a3 := Tryz.isAgg3
  z3 := Tryz.sizeOf3
  v3 := Tryz.zeroValue3
  t4 := Tryz.underlying4
  a4 := Tryz.isAgg4
  z4 := Tryz.sizeOf4
  v4 := Tryz.zeroValue4
  t21 := Tryz.underlying21
  a21 := Tryz.isAgg21
  z21 := Tryz.sizeOf21
  v21 := Tryz.zeroValue21
  t46 := Tryz.underlying155
  a46 := Tryz.isAgg155
  z46 := Tryz.sizeOf155
  v46 := Tryz.zeroValue155
  t51 := Tryz.underlying174
  a51 := Tryz.isAgg174
  z51 := Tryz.sizeOf174
  v51 := Tryz.zeroValue174
  t160 := Tryz.underlying177
  a160 := Tryz.isAgg177
  z160 := Tryz.sizeOf177
  v160 := Tryz.zeroValue177
  t162 := Tryz.underlying159
  a162 := Tryz.isAgg159
  z162 := Tryz.sizeOf159
  v162 := Tryz.zeroValue159
  t203 := Tryz.underlying157
  a203 := Tryz.isAgg157
  z203 := Tryz.sizeOf157
  v203 := Tryz.zeroValue157
  t206 := Tryz.underlying186
  a206 := Tryz.isAgg186
  z206 := Tryz.sizeOf186
  v206 := Tryz.zeroValue186
  t208 := Tryz.underlying188
  a208 := Tryz.isAgg188
  z208 := Tryz.sizeOf188
  v208 := Tryz.zeroValue188
  g13 := by kernel_rfl }
open Go.RowKit Go.Lib in
theorem Tryz.unicode_To (c : Nat) (hc : c < 3) (r : Int) (T : Array CaseRow) (w : World) (hV : CaseVar 1 T w) (hok : CaseOk2 T) (hn : T.size ≤ 1000000000) :
    Calls Tryz.prog 108 #[.int .i64 c, .int .i32 r] w fun e w' => e = .returned (.int .i32 (toW T c r)) ∧ ∃ q, w' = w.drewN q := Any.unicode_To Tryz.lays262 c hc r T w hV hok hn
open Go.RowKit Go.Lib in
theorem Tryz.unicode_ToUpper_any (r : Int) (T : Array CaseRow) (w : World) (hV : CaseVar 1 T w) (hok : CaseOk2 T) (hn : T.size ≤ 1000000000) :
    Calls Tryz.prog 94 #[.int .i32 r] w fun e w' => e = .returned (.int .i32 (Lib.toUpperW T r)) ∧ ∃ q, w' = w.drewN q := Any.unicode_ToUpper_any Tryz.lays203 r T w hV hok hn
open Go.RowKit Go.Lib in
theorem Tryz.unicode_ToUpper_laid (r : Int) (w : World) (hV : CaseVar 1 caseA w) :
    Calls Tryz.prog 94 #[.int .i32 r] w fun e w' => e = .returned (.int .i32 (toUpperU r)) ∧ ∃ q, w' = w.drewN q := Any.unicode_ToUpper_laid Tryz.lays203 r w hV
end Go.Proofs

/- The closures by which layer 1 (decimal) reads digits compute the plain functions of the texts Dp and Dq. Bytes are from 0 to 255, the base is ten or sixteen, texts have at most 1000000 bytes. -/
namespace Go.Proofs.YtgfammlmbjmkoaaGreatDoor
set_option linter.unusedVariables false
set_option linter.unusedSimpArgs false
open Go.RowKit
set_option maxHeartbeats 400000
theorem strings_indexByte (s : ByteArray) (c : Int) (w : World) :
    Calls Tryz.prog 80 #[.string s, .int .u8 c] w fun e w' => e = .returned (.int .i64 (Lib.indexByte s.data.toList c.toNat.toUInt8)) ∧ w = w' :=
  (Tryz.strings_IndexByte s c w).mono fun _ _ h => ⟨h.1, h.2.symm⟩
theorem val_ten {c : Int} (h0 : 0 ≤ c) (h1 : c < 256) : Lib.indexByte (Dp.known 10) c.toNat.toUInt8 = Dp.valV 10 c := by
  obtain ⟨n, rfl⟩ := Int.eq_ofNat_of_zero_le h0
  exact Dp.index_ten ⟨n, by omega⟩
theorem val_hex_low {c : Int} (h0 : 0 ≤ c) (h1 : c < 256) (h : ¬ (65 ≤ c ∧ c ≤ 70)) : Lib.indexByte (Dp.known 16) c.toNat.toUInt8 = Dp.valV 16 c := by
  obtain ⟨n, rfl⟩ := Int.eq_ofNat_of_zero_le h0
  have := Dp.index_hex ⟨n, by omega⟩
  simp only [show ¬ (65 ≤ n ∧ n ≤ 70) by omega, if_false] at this
  exact this
theorem val_hex_up {c : Int} (h : 65 ≤ c ∧ c ≤ 70) : Lib.indexByte (Dp.known 16) (c + 32).toNat.toUInt8 = Dp.valV 16 c := by
  obtain ⟨n, rfl⟩ := Int.eq_ofNat_of_zero_le (show 0 ≤ c by omega)
  have := Dp.index_hex ⟨n, by omega⟩
  simp only [show (65 ≤ n ∧ n ≤ 70) by omega, and_self, if_true] at this
  exact this
theorem val_any (b : Int) (hb : b = 10 ∨ b = 16) (c : Int) (rb kb : Nat) (w : World) (h0 : 0 ≤ c) (h1 : c < 256) (hr : w.cell? ⟨rb, 1, none⟩ = some (.int .i64 b)) (hk : w.cell? ⟨kb, 0, none⟩ = some (.string ⟨(Dp.known b).toArray⟩)) :
    Calls Tryz.prog 121 #[.int .u8 c, .pointer (some ⟨rb, 0, none⟩), .pointer (some ⟨kb, 0, none⟩)] w fun e w' => e = .returned (.int .i64 (Dp.valV b c)) ∧ w = w' := by
  have H10 : Hid (Lib.indexByte (Dp.known 10) c.toNat.toUInt8 = Dp.valV 10 c) := val_ten h0 h1
  rcases hb with rfl | rfl
  · go_enter Tryz.func121, Tryz.ntmps121
    go_wp2_with fail
    refine (strings_indexByte _ _ _).mono ?_
    rintro e w' ⟨rfl, rfl⟩
    go_wp2
    go_ret
    exact ⟨ret_int H10.out, rfl⟩
  · by_cases h : 65 ≤ c ∧ c ≤ 70
    · have H := Lib.hid (val_hex_up h)
      obtain ⟨h2, h3⟩ := h
      go_enter Tryz.func121, Tryz.ntmps121
      go_wp2_with fail
      refine (strings_indexByte _ _ _).mono ?_
      rintro e w' ⟨rfl, rfl⟩
      go_wp2
      go_ret
      exact ⟨ret_int H.out, rfl⟩
    · have H := Lib.hid (val_hex_low h0 h1 h)
      go_enter Tryz.func121, Tryz.ntmps121
      go_wp2_with fail
      all_goals (try (exfalso; omega))
      all_goals (
        refine (strings_indexByte _ _ _).mono ?_
        rintro e w' ⟨rfl, rfl⟩
        go_wp2
        go_ret
        exact ⟨ret_int H.out, rfl⟩)
theorem is_any (b : Int) (hb : b = 10 ∨ b = 16) (c : Int) (rb kb vb : Nat) (w : World) (h0 : 0 ≤ c) (h1 : c < 256) (hr : w.cell? ⟨rb, 1, none⟩ = some (.int .i64 b)) (hk : w.cell? ⟨kb, 0, none⟩ = some (.string ⟨(Dp.known b).toArray⟩))
    (hv : w.cell? ⟨vb, 0, none⟩ = some (.func (.func 121) #[] #[.pointer (some ⟨rb, 0, none⟩), .pointer (some ⟨kb, 0, none⟩)])) :
    Calls Tryz.prog 123 #[.int .u8 c, .pointer (some ⟨vb, 0, none⟩)] w fun e w' => e = .returned (.bool (decide (Dp.digV c < b))) ∧ w = w' := by
  have K := Lib.hid (val_any b hb c rb kb w h0 h1 hr hk)
  clear hr hk
  go_enter Tryz.func123, Tryz.ntmps123
  go_wp2_with fail
  refine K.out.mono ?_
  rintro e w' ⟨rfl, rfl⟩
  go_wp2
  go_ret
  refine ⟨?_, rfl⟩
  have := Dp.digV_lo c
  congr 2
  unfold Dp.valV
  simp
  split <;> omega
theorem digits_any (b : Int) (hb : b = 10 ∨ b = 16) (s : ByteArray) (rb kb vb : Nat) (w : World) (hs : s.size ≤ 1000000) (hr : w.cell? ⟨rb, 1, none⟩ = some (.int .i64 b)) (hk : w.cell? ⟨kb, 0, none⟩ = some (.string ⟨(Dp.known b).toArray⟩))
    (hv : w.cell? ⟨vb, 0, none⟩ = some (.func (.func 121) #[] #[.pointer (some ⟨rb, 0, none⟩), .pointer (some ⟨kb, 0, none⟩)])) :
    Calls Tryz.prog 122 #[.agg #[.string s], .func (.func 123) #[] #[.pointer (some ⟨vb, 0, none⟩)]] w fun e w' =>
      e = .returned (.bool (!s.data.toList.isEmpty && Dp.allD b s.data.toList)) ∧ w.alloc (.cells #[.string s] 150) = w' := by
  go_enter Tryz.func122, Tryz.ntmps122
  have K := Lib.hid (fun (c : Int) (W : World) (h0 : 0 ≤ c) (h1 : c < 256) (hW : Below w.heap.size w W) => is_any b hb c rb kb vb W h0 h1 (cell_below hW hr) (cell_below hW hk) (cell_below hW hv))
  clear hr hk hv
  go_wp2_with fail
  go_loop [5, 9] (fun _ i => ∃ k : Nat, k ≤ s.size ∧ i = .int .i64 k ∧ Dp.allD b (s.data.toList.take k) = true) (fun _ i => s.size - (intOf i).toNat)
  case atStart => exact ⟨0, Nat.zero_le _, rfl, rfl⟩
  case round =>
    obtain ⟨k, hk, rfl, hall⟩ := hrel
    have HA := Lib.hid hall
    clear hall
    by_cases hlt : k < s.size
    · have hb0 : 0 ≤ ((s[k]).toNat : Int) := by omega
      have hb1 : ((s[k]).toNat : Int) < 256 := by have := (s[k]).toNat_lt; omega
      go_wp2_with fail
      refine (K.out _ _ hb0 hb1 ((Below.refl _ _).alloc (Nat.le_refl _) _)).mono ?_
      rintro e w' ⟨rfl, rfl⟩
      have HT := Lib.hid (take_snoc s k hlt)
      generalize hd : decide (Dp.digV ((s[k]).toNat : Int) < b) = d
      have HD := Lib.hid hd
      clear hd
      cases d
      · go_wp2
        go_ret
        refine ⟨ret_bool ?_, rfl⟩
        have hn := Dp.allD_no (b := b) (l := s.data.toList) (k := k) (by simpa using hlt) (by exact HD.out)
        rw [hn]
        simp
      · go_wp2
        go_round
        case rel => exact ⟨k + 1, by omega, by go_num, by rw [HT.out]; unfold Dp.allD at *; rw [List.all_append, HA.out]; simpa using HD.out⟩
        case measure => simp [intOf]; omega
    · go_wp2
      go_ret
      refine ⟨ret_bool ?_, rfl⟩
      have h1 : s.data.toList.take k = s.data.toList := List.take_of_length_le (by simp; omega)
      have h2 := HA.out
      rw [h1] at h2
      rw [h2]
      simp [ByteArray.toList_eq]
end Go.Proofs.YtgfammlmbjmkoaaGreatDoor
