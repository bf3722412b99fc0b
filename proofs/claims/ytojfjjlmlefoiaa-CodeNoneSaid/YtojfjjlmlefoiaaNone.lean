/-
  CodeNone: of a nil reader each call answers zero, and ErrNil where it has an error to answer: for every n.
-/
import Derived.Test.YtojfjjlmlefoiaaWorks
set_option linter.unusedVariables false
namespace Go.Proofs.Ytojfjjlmlefoiaa
open Go.ChangeShapes Go.WideShapes Go.ChangeAt Go.RowKit

theorem none_walk (n : Int) (w : World) : Calls Try.prog 6 #[.int .i64 n] w fun e w' => e = .returned (.bool true) ∧ Below w.heap.size w w' := by
  go_enter Try.func6, Try.ntmps6
  go_wp2_with fail
  refine (u8_nil _).mono ?_
  rintro e w1 ⟨rfl, b1⟩
  simp only []
  go_wp2_with fail
  refine (u16_nil _).mono ?_
  rintro e w2 ⟨rfl, b2⟩
  simp only []
  go_wp2_with fail
  refine (u32_nil _).mono ?_
  rintro e w3 ⟨rfl, b3⟩
  simp only []
  go_wp2_with fail
  refine (u64_nil _).mono ?_
  rintro e w4 ⟨rfl, b4⟩
  simp only []
  go_wp2_with fail
  refine (take_meth_nil n _).mono ?_
  rintro e w5 ⟨rfl, rfl⟩
  simp only []
  go_wp2_with fail
  refine (txt_nil _).mono ?_
  rintro e w5 ⟨rfl, rfl⟩
  simp only []
  go_wp2_with fail
  refine (left_nil _).mono ?_
  rintro e w5 ⟨rfl, rfl⟩
  simp only []
  go_wp2_with fail
  refine (fault_nil _).mono ?_
  rintro e w5 ⟨rfl, rfl⟩
  simp only []
  go_wp2_with fail
  refine (end_nil _).mono ?_
  rintro e w5 ⟨rfl, rfl⟩
  simp only []
  go_wp2_with fail
  refine (works_any _).mono ?_
  rintro e w5 ⟨rfl, b5⟩
  simp only []
  go_wp2_with fail
  go_ret
  exact ⟨rfl, (((b1.more b2).more b3).more b4).more b5⟩

set_option maxRecDepth 100000 in
theorem none_lifted (os : Os) (started : os.Started) (H : Type) (enc : TypeId × Value → H) :
    ReturnsInHanded {} Try.checked os 6 .any (Rows.codeNoneSpec.pre6 enc Try.prog Try.f6 Rows.codeNoneRow.domain false) (Rows.codeNoneSpec.post enc Try.prog Try.f6 false true false false) := by
  refine returnsInHanded_of_change (C := Try.checked) Try.own started (by kernel_rfl) Try.func6
    (ChangeSpec.witness6 (enc := enc) (C := Try.checked) false ⟨#[], #[.int .i64 0], []⟩ 8 (by kernel_rfl) (by kernel_rfl) (by kernel_rfl) (by kernel_rfl)) ?_
  intro W base args ds gs before hval0 hW _ _
  have hval : ∀ (j : Nat) t v, Try.f6.params[j]? = some t → args[j]? = some v → Value.okWide Try.prog W .any base t v := hval0
  have hW' := hW
  obtain ⟨p, q, hA0, hV, rfl, _, _⟩ := hW
  have hA : DataW.TrodAll enc Try.prog W 0 (fun _ => true) true Try.f6.params.toList args.toList ds p := hA0
  rw [Try.params6] at hA hval
  obtain ⟨v0, d0, rfl, rfl, h0⟩ := trodAll_one hA
  obtain ⟨rfl, rfl⟩ := trodVars_none hV
  obtain ⟨n, rfl, rfl, rfl, wn⟩ := open_int Try.underlying3 (hval 0 3 v0 rfl rfl) h0
  refine (none_walk n W).mono fun e W' ⟨he, hb⟩ => ?_
  subst he
  exact ⟨_, rfl, law_post Try.laidOut (by kernel_rfl) (t := 4) rfl Try.underlying4 rfl hW' rfl rfl rfl hb⟩

theorem none_holds : Rows.CodeNoneSaid :=
  OpenClaim.holds_of_wide 6 Try.f6 rfl rfl rfl rfl rfl rfl rfl ⟨rfl, rfl, rfl, rfl, rfl⟩ rfl rfl rfl rfl rfl (by kernel_rfl) Try.func6 (by kernel_rfl)
    (of_decide_eq_true (by kernel_rfl)) (by unfold Func.isWrapper; first | (rw [if_pos (by decide +kernel)]; kernel_rfl) | (rw [if_neg (by decide +kernel)]; exact ⟨rfl, rfl⟩))
    (fun os started H enc _ => none_lifted os started H enc)
end Go.Proofs.Ytojfjjlmlefoiaa
