/-
  What no hash answers: ErrNil to bytes, no sum. For every text: no conditions.
-/
import Derived.Test.YtfminodongcelaaDoorLaid
import Derived.Test.YtfminodongcelaaDoorCards
import Derived.Test.YtfminodongcelaaDoorTie
import Derived.ChangeMaps5
set_option linter.unusedVariables false
namespace Go.Proofs.YtfminodongcelaaDoor
open Go.ChangeShapes Go.WideShapes Go.ChangeAt Go.RowKit
open Go.ChangeMaps (open_string shut_string)

set_option maxRecDepth 100000 in
theorem blakeNil_lifted (os : Os) (started : os.Started) (H : Type) (enc : TypeId × Value → H) :
    ReturnsInHanded {} Tryd.checked os 6 .any (fun w args => (Rows.blakeNilSpec.pre enc Tryd.prog Tryd.f6 Rows.blakeNilRow.domain false w args ∧ laidMet Tryd.prog Rows.blakeNilRow.laid w) ∧ sizedMet enc Tryd.prog Tryd.f6 (OpenSpec.ofChange Rows.blakeNilSpec) false w args)
      (Rows.blakeNilSpec.post enc Tryd.prog Tryd.f6 false true false false) := by
  refine returnsInHanded_of_change_and (C := Tryd.checked) (X := fun w _ => laidMet Tryd.prog Rows.blakeNilRow.laid w) (fun _ _ _ hh h => h.of_heap hh) Tryd.own started (by kernel_rfl) Tryd.func6
    (ChangeSpec.witness_at (enc := enc) (C := Tryd.checked) (os := os) (X := fun w _ => laidMet Tryd.prog Rows.blakeNilRow.laid w) false (tabWorld os) #[.string .empty] 8 rfl (by kernel_rfl) (by kernel_rfl) (by kernel_rfl) (by kernel_rfl) (by kernel_rfl) (tab_met os _)) ?_
  intro W base args ds gs before hval0 hW _ _ hL _
  have hval : ∀ (j : Nat) t v, Tryd.f6.params[j]? = some t → args[j]? = some v → Value.okWide Tryd.prog W .any base t v := hval0
  have hW' := hW
  obtain ⟨p, q, hA0, hV, rfl, _, _⟩ := hW
  have hA : DataW.TrodAll enc Tryd.prog W 0 (fun _ => true) true Tryd.f6.params.toList args.toList ds p := hA0
  rw [Tryd.params6] at hA hval
  obtain ⟨v0, d0, rfl, rfl, h0⟩ := trodAll_one hA
  obtain ⟨rfl, rfl⟩ := trodVars_none hV
  obtain ⟨s0, rfl, rfl, rfl, hs0⟩ := open_string (show Tryd.prog.underlying 9 = some .string by kernel_rfl) (hval 0 9 v0 rfl rfl) h0
  have hT := tab_of_laid hL
  have fin : Calls Tryd.prog 6 #[.string s0] W fun e w' => e = .returned (.bool true) ∧ Below W.heap.size W w' := by
    exact nil_walk s0 W hT
  refine fin.mono fun e W' ⟨he, hb⟩ => ?_
  subst he
  exact ⟨_, rfl, law_post Tryd.laidOut (by kernel_rfl) (t := 4) rfl Tryd.underlying4 rfl hW' rfl rfl rfl hb⟩
theorem blakeNil_holds : Rows.BlakeNilSaid :=
  OpenClaim.holds_of_wide 6 Tryd.f6 rfl rfl rfl rfl rfl rfl rfl ⟨rfl, rfl, rfl, rfl, rfl⟩ rfl rfl rfl rfl rfl (by kernel_rfl) Tryd.func6 (by kernel_rfl)
    (of_decide_eq_true (by kernel_rfl)) (by unfold Func.isWrapper; first | (rw [if_pos (by decide +kernel)]; kernel_rfl) | (rw [if_neg (by decide +kernel)]; exact ⟨rfl, rfl⟩))
    (fun os started H enc _ => blakeNil_lifted os started H enc)
theorem blakeNil_stand (j : Nat) (t : TypeId) (h : Tryd.f6.params[j]? = some t) : Tryd.prog.wantsStandIn t = false := by
  rw [Tryd.params6] at h
  have hj : j < 1 := by
    have := (Array.getElem?_eq_some_iff.1 h).1
    simpa using this
  obtain rfl : j = 0 := by omega
  · have ht : t = 9 := by simpa using h.symm
    subst ht
    exact (show Tryd.prog.wantsStandIn 9 = false by kernel_rfl)
theorem blakeNilCard_holds : Rows.BlakeNilCardSaid :=
  Claim7.holds_tied_plain_at .later [] [.data] true (true, "fb9db02c5493408400a4f1c9800a3719dfea66a9ee598d599d330f671175d9f8") false
    blakeNil_holds (fun _ h => by cases h) (by kernel_rfl) (fun _ h => by cases h) blakeNil_row_tie rfl ⟨rfl, rfl⟩ (by kernel_rfl) rfl
    (fun f fn hf hfn => by
      obtain rfl : f = 6 := Option.some.inj ((show Tryd.prog.funcNamed "isthmus/isthmuslaw06.BlakeNil" = some 6 by kernel_rfl).symm.trans hf) |>.symm
      obtain rfl : fn = Tryd.f6 := (Option.some.inj (Tryd.func6.symm.trans hfn)).symm
      exact ⟨by kernel_rfl, fun j t ht => blakeNil_stand j t ht⟩)
    (by kernel_rfl)

end Go.Proofs.YtfminodongcelaaDoor
