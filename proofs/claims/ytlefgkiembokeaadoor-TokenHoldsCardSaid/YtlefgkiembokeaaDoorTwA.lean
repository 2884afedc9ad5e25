/- A text cut at a byte outside of quotes: the program's. -/
import Derived.Test.YtlefgkiembokeaaDoorTw9
import Derived.Test.YtlefgkiembokeaaDoorTw8
import Derived.IntWalk
import Derived.Lib.QuietBelow
namespace Go.Proofs.YtlefgkiembokeaaDoor
set_option linter.unusedVariables false
set_option linter.unusedSimpArgs false
open Go.RowKit Go.Shelf Go.Sort
set_option maxHeartbeats 1000000
namespace Tp
def cutAt (by_ : Int) : Bool → Bool → List UInt8 → Option Nat
  | _, _, [] => none
  | q, b, c :: l => if !q && ((c.toNat : Int) == by_) then some 0 else (cutAt by_ (stQ q b c.toNat) (stB q b c.toNat) l).map (· + 1)
def cut (l : List UInt8) (by_ : Int) : List UInt8 × List UInt8 × Bool :=
  match cutAt by_ false false l with
  | some k => (trim (l.take k), trim (l.drop (k + 1)), true)
  | none => (trim l, [], false)
/-- k bytes were taken, and the cut is not among them -/
def CutSt (l : List UInt8) (by_ : Int) (q b : Bool) (k : Nat) : Prop := cutAt by_ false false l = (cutAt by_ q b (l.drop k)).map (· + k)
theorem cutSt_start (l : List UInt8) (by_ : Int) : CutSt l by_ false false 0 := by
  unfold CutSt
  rw [List.drop_zero]
  cases cutAt by_ false false l <;> rfl
theorem cutSt_next {l : List UInt8} {by_ : Int} {q b : Bool} {k : Nat} (h : CutSt l by_ q b k) (hk : k < l.length) (hn : (!q && ((l[k].toNat : Int) == by_)) = false) : CutSt l by_ (stQ q b l[k].toNat) (stB q b l[k].toNat) (k + 1) := by
  unfold CutSt at *
  rw [h, List.drop_eq_getElem_cons hk, cutAt, hn]
  cases cutAt by_ (stQ q b l[k].toNat) (stB q b l[k].toNat) (l.drop (k + 1)) with
  | none => rfl
  | some x => simp; omega
theorem cutSt_hit {l : List UInt8} {by_ : Int} {q b : Bool} {k : Nat} (h : CutSt l by_ q b k) (hk : k < l.length) (hn : (!q && ((l[k].toNat : Int) == by_)) = true) : cut l by_ = (trim (l.take k), trim (l.drop (k + 1)), true) := by
  unfold CutSt at h
  rw [List.drop_eq_getElem_cons hk, cutAt, hn] at h
  unfold cut
  rw [h]
  simp
theorem cutSt_end {l : List UInt8} {by_ : Int} {q b : Bool} {k : Nat} (h : CutSt l by_ q b k) (hk : k = l.length) : cut l by_ = (trim l, [], false) := by
  unfold CutSt at h
  rw [hk, List.drop_length] at h
  unfold cut
  rw [h]
  rfl
end Tp
theorem slice_to (u : ByteArray) (w : World) (k : Nat) (hk : k ≤ u.size) (hu : u.size ≤ 9223372036854775807) : (Instr.slice 9 (.string u) none (some (.int .i64 (k : Int))) none).run Tryd.prog w = .ok (.string (u.extract 0 k)) w := by
  have h2 : (k : Int) ≤ u.size := by omega
  simp [go_sem, Tryd.underlying9, h2]
theorem slice_from (u : ByteArray) (w : World) (k : Nat) (hk : k < u.size) (hu : u.size ≤ 9223372036854775807) : (Instr.slice 9 (.string u) (some (.int .i64 ((k : Int) + 1))) none none).run Tryd.prog w = .ok (.string (u.extract (k + 1) u.size)) w := by
  have h2 : (k : Int) + 1 ≤ u.size := by omega
  have h3 : (0 : Int) ≤ (k : Int) + 1 := by omega
  have h4 : ((k : Int) + 1).toNat = k + 1 := by omega
  simp [go_sem, Tryd.underlying9, h2, h3, h4]
set_option maxRecDepth 100000 in
theorem tok_cut (s : ByteArray) (by_ : Int) (w : World) (h0 : 0 ≤ by_) (h1 : by_ < 256) (hs : s.size ≤ 1000000) :
    Calls Tryd.prog 90 #[.string s, .int .u8 by_] w fun e w' =>
      e = .returned (.tuple #[tx (Tp.cut s.data.toList by_).1, tx (Tp.cut s.data.toList by_).2.1, .bool (Tp.cut s.data.toList by_).2.2]) ∧ Below w.heap.size w w' := by
  have HIX := Lib.hid (fun k h W => index_at s W k h)
  go_enter Tryd.func90, Tryd.ntmps90
  go_wp2_with fail
  have hbl : Below w.heap.size w (w.alloc (.cells #[.string s, .bool false, .bool false] 117)) := (Below.refl _ _).alloc (Nat.le_refl _) _
  have HB0 := Lib.hid hbl
  clear hbl
  go_loopw [8, 9, 20] (fun _ _ i wr => ∃ (k : Nat) (q b : Bool), k ≤ s.size ∧ i = .int .i64 k ∧ Tp.CutSt s.data.toList by_ q b k ∧ RS wr w.heap.size s q b ∧ Below w.heap.size w wr ∧ w.heap.size < wr.heap.size) (fun _ _ i _ => s.size - (intOf i).toNat)
  case atStart => exact ⟨0, false, false, Nat.zero_le _, rfl, Tp.cutSt_start _ _, by simp [RS, World.alloc, -World.alloc_eq], HB0.out, by simp⟩
  case round =>
    clear HB0
    obtain ⟨k, q, b, hk, rfl, hst, hrs, hb, hlen⟩ := hrel
    have HS := Lib.hid hst
    have HR := Lib.hid hrs
    have HB := Lib.hid hb
    have HL := Lib.hid hlen
    clear hst hrs hb hlen
    by_cases hlt : k < s.size
    · have hix := HIX.out k hlt
      have hc1 := HR.out.c1
      have hr1 : (0 : Int) ≤ ((s[k]).toNat : Int) := by omega
      have hr2 : ((s[k]).toNat : Int) < 256 := by have := (s[k]).toNat_lt; omega
      have hkl : k < s.data.toList.length := by simpa using hlt
      have HN := Lib.hid (Tp.cutSt_next HS.out hkl)
      have HH := Lib.hid (Tp.cutSt_hit HS.out hkl)
      rw [show s.data.toList[k] = s[k] from rfl] at HN HH
      obtain ⟨x, hx⟩ : ∃ x : Int, ((s[k]).toNat : Int) = x := ⟨_, rfl⟩
      rw [hx] at hix hr1 hr2 HN HH
      have K := Lib.hid (tok_open w.heap.size s q b x wr hr1 hr2 HR.out)
      clear hx hkl hr1 hr2
      go_wp2_with (simp only [hix])
      refine K.out.mono ?_
      rintro e w2 ⟨rfl, hrs2, htc⟩
      obtain ⟨r, hr⟩ : ∃ r, Tp.stR q b x = r := ⟨_, rfl⟩
      rw [hr]
      clear hr hc1
      have HR2 := Lib.hid hrs2
      have HB2 := Lib.hid (HB.out.trans (htc.below (Nat.le_refl _)))
      have HL2 := Lib.hid (show w.heap.size < w2.heap.size by rw [htc.size]; exact HL.out)
      clear hrs2 htc K
      cases q
      · by_cases hxb : x = by_
        · have e1 : (x == by_) = true := beq_iff_eq.2 hxb
          have HC := Lib.hid (HH.out (by rw [e1]; rfl))
          clear HN HH HR HB HL hxb HS
          have hsl1 := fun W => slice_to s W k (by omega) (by omega)
          have hsl2 := fun W => slice_from s W k hlt (by omega)
          have hz1 : (s.extract 0 k).size ≤ 9223372036854775807 := by rw [ByteArray.size_extract]; omega
          have hz2 : (s.extract (k + 1) s.size).size ≤ 9223372036854775807 := by rw [ByteArray.size_extract]; omega
          have hd1 : (s.extract 0 k).data.toList = s.data.toList.take k := Lib.extract_from_zero s k
          have hd2 : (s.extract (k + 1) s.size).data.toList = s.data.toList.drop (k + 1) := Lib.extract_to_end s (k + 1)
          have c1 := fun d os => Calls.regrown_of (tok_trim (s.extract 0 k) (grow (redrawn w2 d) os) hz1)
          have c2 := fun d os => Calls.regrown_of (tok_trim (s.extract (k + 1) s.size) (grow (redrawn w2 d) os) hz2)
          rw [hd1] at c1
          rw [hd2] at c2
          clear hz1 hz2 hd1 hd2
          obtain ⟨z1, hz1⟩ : ∃ z, s.extract 0 k = z := ⟨_, rfl⟩
          obtain ⟨z2, hz2⟩ : ∃ z, s.extract (k + 1) s.size = z := ⟨_, rfl⟩
          rw [hz1] at hsl1 c1
          rw [hz2] at hsl2 c2
          clear hz1 hz2
          have C1 := Lib.hid c1
          have C2 := Lib.hid c2
          clear c1 c2
          have hw : IntKind.i64.wrap ((k : Int) + 1) = (k : Int) + 1 := IntWalk.i64_in _ (by omega)
          have hk1 : (0 : Int) ≤ (k : Int) + 1 := by omega
          go_wp2_with (simp only [hix])
          refine wp_region_quiet_below (by kernel_rfl) (by kernel_rfl) ?_
          repeat (quiet_step (first | exact C1.out _ _ | exact C2.out _ _))
          refine wpQuiet_nil ?_
          intro _ hw'
          obtain ⟨⟨dq, osq⟩, hw''⟩ := hw'
          subst hw''
          go_wp2
          refine bodyPost_ret (v := .tuple #[.string ⟨(Tp.trim (s.data.toList.take k)).toArray⟩, .string ⟨(Tp.trim (s.data.toList.drop (k + 1))).toArray⟩, .bool true]) (by simp [results, Tryd.results90, go_sem]) rfl ⟨?_, ?_⟩
          · rw [HC.out]
            rfl
          · exact HB2.out.trans ((below_regrown _ _ _).mono HB2.out.size)
        · have e1 : (x == by_) = false := beq_eq_false_iff_ne.2 hxb
          have HN2 := Lib.hid (HN.out (by rw [e1]; rfl))
          clear HN HH hxb
          go_wp2_with (simp only [hix])
          go_roundw
          case rel => exact ⟨k + 1, _, _, by omega, by go_num, HN2.out, HR2.out, HB2.out, HL2.out⟩
          case measure => simp [intOf]; omega
      · have HN2 := Lib.hid (HN.out rfl)
        clear HN HH
        go_wp2_with (simp only [hix])
        go_roundw
        case rel => exact ⟨k + 1, _, _, by omega, by go_num, HN2.out, HR2.out, HB2.out, HL2.out⟩
        case measure => simp [intOf]; omega
    · have hks : k = s.size := by omega
      have HE := Lib.hid (Tp.cutSt_end HS.out (by rw [hks]; rfl))
      have hks2 : ¬ k < s.size := hlt
      clear hks
      have T := Lib.hid (tok_trim s wr (by omega))
      go_wp2_with fail
      refine T.out.mono ?_
      rintro e w2 ⟨rfl, hb2⟩
      go_wp2
      refine bodyPost_ret (v := .tuple #[.string ⟨(Tp.trim s.data.toList).toArray⟩, .string ⟨#[]⟩, .bool false]) (by simp [results, Tryd.results90, go_sem]) rfl ⟨?_, HB.out.trans (hb2.mono HB.out.size)⟩
      rw [HE.out]
      rfl
end Go.Proofs.YtlefgkiembokeaaDoor
