/-
  The words to begin with are the roots that the document names. For every number: no conditions.
-/
import Derived.Test.YtfminodongcelaaDoorRootsWalk
import Derived.Test.YtfminodongcelaaDoorLaid
import Derived.Test.YtfminodongcelaaDoorCards
import Derived.Test.YtfminodongcelaaDoorTie
import Derived.ChangeMaps5
set_option linter.unusedVariables false
namespace Go.Proofs.YtfminodongcelaaDoor
open Go.ChangeShapes Go.WideShapes Go.ChangeAt Go.RowKit
open Go.ChangeMaps (open_string shut_string)

set_option maxRecDepth 100000 in
theorem blakeRoots_lifted (os : Os) (started : os.Started) (H : Type) (enc : TypeId × Value → H) :
    ReturnsInHanded {} Tryd.checked os 5 .any (fun w args => (Rows.blakeRootsSpec.pre enc Tryd.prog Tryd.f5 Rows.blakeRootsRow.domain false w args ∧ laidMet Tryd.prog Rows.blakeRootsRow.laid w) ∧ sizedMet enc Tryd.prog Tryd.f5 (OpenSpec.ofChange Rows.blakeRootsSpec) false w args)
      (Rows.blakeRootsSpec.post enc Tryd.prog Tryd.f5 false true false false) := by
  refine returnsInHanded_of_change_and (C := Tryd.checked) (X := fun w _ => laidMet Tryd.prog Rows.blakeRootsRow.laid w) (fun _ _ _ hh h => h.of_heap hh) Tryd.own started (by kernel_rfl) Tryd.func5
    (ChangeSpec.witness_at (enc := enc) (C := Tryd.checked) (os := os) (X := fun w _ => laidMet Tryd.prog Rows.blakeRootsRow.laid w) false (tabWorld os) #[.int .i64 1] 8 rfl (by kernel_rfl) (by kernel_rfl) (by kernel_rfl) (by kernel_rfl) (by kernel_rfl) (tab_met os _)) ?_
  intro W base args ds gs before hval0 hW _ _ hL _
  have hval : ∀ (j : Nat) t v, Tryd.f5.params[j]? = some t → args[j]? = some v → Value.okWide Tryd.prog W .any base t v := hval0
  have hW' := hW
  obtain ⟨p, q, hA0, hV, rfl, _, _⟩ := hW
  have hA : DataW.TrodAll enc Tryd.prog W 0 (fun _ => true) true Tryd.f5.params.toList args.toList ds p := hA0
  rw [Tryd.params5] at hA hval
  obtain ⟨v0, d0, rfl, rfl, h0⟩ := trodAll_one hA
  obtain ⟨rfl, rfl⟩ := trodVars_none hV
  obtain ⟨x0, rfl, rfl, rfl, w0⟩ := open_int (show Tryd.prog.underlying 3 = some (.int .i64) by kernel_rfl) (hval 0 3 v0 rfl rfl) h0
  have hT := tab_of_laid hL
  have fin : Calls Tryd.prog 5 #[.int .i64 x0] W fun e w' => e = .returned (.bool true) ∧ Below W.heap.size W w' := by
    exact roots_walk x0 W hT
  refine fin.mono fun e W' ⟨he, hb⟩ => ?_
  subst he
  exact ⟨_, rfl, law_post Tryd.laidOut (by kernel_rfl) (t := 4) rfl Tryd.underlying4 rfl hW' rfl rfl rfl hb⟩
theorem blakeRoots_holds : Rows.BlakeRootsSaid :=
  OpenClaim.holds_of_wide 5 Tryd.f5 rfl rfl rfl rfl rfl rfl rfl ⟨rfl, rfl, rfl, rfl, rfl⟩ rfl rfl rfl rfl rfl (by kernel_rfl) Tryd.func5 (by kernel_rfl)
    (of_decide_eq_true (by kernel_rfl)) (by unfold Func.isWrapper; first | (rw [if_pos (by decide +kernel)]; kernel_rfl) | (rw [if_neg (by decide +kernel)]; exact ⟨rfl, rfl⟩))
    (fun os started H enc _ => blakeRoots_lifted os started H enc)
theorem blakeRoots_stand (j : Nat) (t : TypeId) (h : Tryd.f5.params[j]? = some t) : Tryd.prog.wantsStandIn t = false := by
  rw [Tryd.params5] at h
  have hj : j < 1 := by
    have := (Array.getElem?_eq_some_iff.1 h).1
    simpa using this
  obtain rfl : j = 0 := by omega
  · have ht : t = 3 := by simpa using h.symm
    subst ht
    exact (show Tryd.prog.wantsStandIn 3 = false by kernel_rfl)
theorem blakeRootsCard_holds : Rows.BlakeRootsCardSaid :=
  Claim7.holds_tied_plain_at .later [] [.data] true (true, "fb9db02c5493408400a4f1c9800a3719dfea66a9ee598d599d330f671175d9f8") false
    blakeRoots_holds (fun _ h => by cases h) (by kernel_rfl) (fun _ h => by cases h) blakeRoots_row_tie rfl ⟨rfl, rfl⟩ (by kernel_rfl) rfl
    (fun f fn hf hfn => by
      obtain rfl : f = 5 := Option.some.inj ((show Tryd.prog.funcNamed "isthmus/isthmuslaw06.BlakeRoots" = some 5 by kernel_rfl).symm.trans hf) |>.symm
      obtain rfl : fn = Tryd.f5 := (Option.some.inj (Tryd.func5.symm.trans hfn)).symm
      exact ⟨by kernel_rfl, fun j t ht => blakeRoots_stand j t ht⟩)
    (by kernel_rfl)

end Go.Proofs.YtfminodongcelaaDoor
