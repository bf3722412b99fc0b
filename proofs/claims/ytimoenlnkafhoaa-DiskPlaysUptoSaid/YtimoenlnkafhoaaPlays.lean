/-
  DiskPlays, where what comes in is of bulk at most 1048576: what stands on a disk, whatever is appended, synced, cut off, fails, crashes; and that a copy is another one.
-/
import Derived.Test.YtimoenlnkafhoaaPlaysWalk
import Derived.JoinedCond
set_option linter.unusedVariables false
namespace Go.Proofs.Ytimoenlnkafhoaa
open Go.ChangeShapes Go.WideShapes Go.ChangeAt Go.RowKit
open Go.ChangeMaps (open_string shut_string)

theorem plays_heavy (room : Value) (ao : Option Addr) (cap : Nat) (l : List St) (w : World) (H : Hid (StepsAt w ao l)) (hl : l.length ≤ maxLen) (hs : sumS l ≤ 1048576) (hb : heavyB l = true) :
    Calls Try.prog 6 #[room, .slice ao l.length cap] w fun e w' => e = .returned (.bool true) ∧ Below w.heap.size w w' := by
  have HH := Lib.hid hb
  clear hb
  go_enter Try.func6, Try.ntmps6
  go_wp2_with fail
  refine (heavy_any ao cap l w H hl hs).mono ?_
  rintro e w0 ⟨rfl, rfl⟩
  rw [HH.out]
  simp only []
  go_wp2_with fail
  refine (works_any _).mono ?_
  rintro e w6 ⟨rfl, b6⟩
  simp only []
  go_wp2_with fail
  go_ret
  exact ⟨rfl, b6⟩

theorem plays_room (x : Int) (ao : Option Addr) (cap : Nat) (l : List St) (w : World) (H : Hid (StepsAt w ao l)) (hl : l.length ≤ maxLen) (hs : sumS l ≤ 1048576) (hb : heavyB l = false) (hx : ¬ (0 ≤ x ∧ x ≤ 1048576)) :
    Calls Try.prog 6 #[.int .i64 x, .slice ao l.length cap] w fun e w' => e = .returned (.bool true) ∧ Below w.heap.size w w' := by
  have HH := Lib.hid hb
  have HX := Lib.hid (decide_eq_false hx)
  have HB := Lib.hid (show x < 0 ∨ 1048576 < x by omega)
  clear hb hx
  go_enter Try.func6, Try.ntmps6
  go_wp2_with fail
  refine (heavy_any ao cap l w H hl hs).mono ?_
  rintro e w0 ⟨rfl, rfl⟩
  rw [HH.out]
  simp only []
  go_wp2_with fail
  refine (new_bad x w HB.out).mono ?_
  rintro e w0 ⟨rfl, rfl⟩
  simp only []
  go_wp2_with fail
  refine (may_any x w).mono ?_
  rintro e w0 ⟨rfl, rfl⟩
  rw [HX.out]
  simp only []
  go_wp2_with fail
  refine (works_any _).mono ?_
  rintro e w6 ⟨rfl, b6⟩
  simp only []
  go_wp2_with fail
  go_ret
  exact ⟨rfl, b6⟩

set_option maxRecDepth 100000 in
theorem diskPlays_lifted (os : Os) (started : os.Started) (H : Type) (enc : TypeId × Value → H) (F : Stop.Interp) :
    ReturnsInHanded {} Try.checked os 6 .any ((Rows.OpenSpec.upto Rows.diskPlaysSpec).pre6 enc Try.prog Try.f6 Rows.diskPlaysUptoRow.domain false) (((Rows.OpenSpec.upto Rows.diskPlaysSpec).at F).post enc Try.prog Try.f6 false true false false) := by
  refine returnsInHanded_of_cond (C := Try.checked) (s := Rows.OpenSpec.upto Rows.diskPlaysSpec) (k := Rows.uptoSmall) rfl Try.own started (by kernel_rfl) Try.func6
    (OpenSpec.witness (enc := enc) (C := Try.checked) (s := Rows.OpenSpec.upto Rows.diskPlaysSpec) (k := Rows.uptoSmall) rfl false ⟨#[], #[.int .i64 0, .slice none 0 0], []⟩ 8 (by kernel_rfl) (by kernel_rfl) (by kernel_rfl)
      (x := ([.lit (.int .i64 0), .nil], [], [])) (by kernel_rfl) rfl (by kernel_rfl)) ?_
  intro W base args ds gs before hval0 hW _ hk _
  have hval : ∀ (j : Nat) t v, Try.f6.params[j]? = some t → args[j]? = some v → Value.okWide Try.prog W .any base t v := hval0
  have hW' := hW
  obtain ⟨p, q, hA0, hV, rfl, _, _⟩ := hW
  have hA : DataW.TrodAll enc Try.prog W 0 (fun _ => true) true Try.f6.params.toList args.toList ds p := hA0
  rw [Try.params6] at hA hval
  obtain ⟨v0, v1, d0, d1, p0, p1, rfl, rfl, rfl, h0, h1⟩ := trodAll_two hA
  obtain ⟨rfl, rfl⟩ := trodVars_none hV
  obtain ⟨x0, rfl, rfl, rfl, w0⟩ := open_int Try.underlying3 (hval 0 3 v0 rfl rfl) h0
  obtain ⟨a1, l1, c1, rfl⟩ := okWide_slice Try.underlying23 (hval 1 23 v1 rfl rfl)
  have fin : Calls Try.prog 6 #[.int .i64 x0, .slice a1 l1 c1] W fun e w' => e = .returned (.bool true) ∧ Below W.heap.size W w' := by
    obtain ⟨f1, hf1⟩ := h1
    obtain ⟨l, hl, hX, hm, hsum⟩ := open_script hf1
    have hk : Rows.uptoBulkAll [.lit (.int .i64 x0), d1] ≤ 1048576 := of_decide_eq_true hk
    simp only [Rows.uptoBulkAll] at hk
    subst hl
    cases hb : heavyB l with
    | true => exact plays_heavy _ a1 c1 l W (Lib.hid hX) hm (by omega) hb
    | false =>
      by_cases hx : 0 ≤ x0 ∧ x0 ≤ 1048576
      · have hb2 := of_decide_eq_false hb
        obtain ⟨x0, rfl⟩ := Int.eq_ofNat_of_zero_le hx.1
        exact plays_walk x0 a1 c1 l W (by omega) (Lib.hid hX) (by omega) (by omega)
      · exact plays_room _ a1 c1 l W (Lib.hid hX) hm (by omega) hb hx
  refine fin.mono fun e W' ⟨he, hb⟩ => ?_
  subst he
  exact ⟨_, rfl, law_post Try.laidOut (by kernel_rfl) (t := 4) rfl Try.underlying4 rfl hW' rfl rfl rfl hb⟩

theorem diskPlays_holds : Rows.DiskPlaysUptoSaid :=
  OpenClaim.holds_of_cond 6 Try.f6 rfl rfl rfl rfl rfl rfl rfl ⟨rfl, rfl, rfl, rfl, rfl⟩ rfl rfl rfl rfl rfl (by kernel_rfl) Try.func6 (by kernel_rfl)
    (of_decide_eq_true (by kernel_rfl)) (by unfold Func.isWrapper; first | (rw [if_pos (by decide +kernel)]; kernel_rfl) | (rw [if_neg (by decide +kernel)]; exact ⟨rfl, rfl⟩))
    (fun os started H enc _ F => diskPlays_lifted os started H enc F)

end Go.Proofs.Ytimoenlnkafhoaa
