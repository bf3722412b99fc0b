/-
  What the sum of a text is, of any size, by any key. For every size, key and text: no conditions.
-/
import Derived.Test.YtfminodongcelaaDoorSumsWalk
import Derived.Test.YtfminodongcelaaDoorLaid
import Derived.Test.YtfminodongcelaaDoorCards
import Derived.Test.YtfminodongcelaaDoorTie
import Derived.ChangeMaps5
set_option linter.unusedVariables false
namespace Go.Proofs.YtfminodongcelaaDoor
open Go.ChangeShapes Go.WideShapes Go.ChangeAt Go.RowKit
open Go.ChangeMaps (open_string shut_string)

set_option maxRecDepth 100000 in
theorem blakeSums_lifted (os : Os) (started : os.Started) (H : Type) (enc : TypeId × Value → H) :
    ReturnsInHanded {} Tryd.checked os 3 .any (fun w args => (Rows.blakeSumsSpec.pre enc Tryd.prog Tryd.f3 Rows.blakeSumsRow.domain false w args ∧ laidMet Tryd.prog Rows.blakeSumsRow.laid w) ∧ sizedMet enc Tryd.prog Tryd.f3 (OpenSpec.ofChange Rows.blakeSumsSpec) false w args)
      (Rows.blakeSumsSpec.post enc Tryd.prog Tryd.f3 false true false false) := by
  refine returnsInHanded_of_change_and (C := Tryd.checked) (X := fun w _ => laidMet Tryd.prog Rows.blakeSumsRow.laid w) (fun _ _ _ hh h => h.of_heap hh) Tryd.own started (by kernel_rfl) Tryd.func3
    (ChangeSpec.witness_at (enc := enc) (C := Tryd.checked) (os := os) (X := fun w _ => laidMet Tryd.prog Rows.blakeSumsRow.laid w) false (tabWorld os) #[.int .i64 1, .string .empty, .string .empty] 8 rfl (by kernel_rfl) (by kernel_rfl) (by kernel_rfl) (by kernel_rfl) (by kernel_rfl) (tab_met os _)) ?_
  intro W base args ds gs before hval0 hW _ _ hL _
  have hval : ∀ (j : Nat) t v, Tryd.f3.params[j]? = some t → args[j]? = some v → Value.okWide Tryd.prog W .any base t v := hval0
  have hW' := hW
  obtain ⟨p, q, hA0, hV, rfl, _, _⟩ := hW
  have hA : DataW.TrodAll enc Tryd.prog W 0 (fun _ => true) true Tryd.f3.params.toList args.toList ds p := hA0
  rw [Tryd.params3] at hA hval
  obtain ⟨v0, v1, v2, d0, d1, d2, p0, p1, p2, rfl, rfl, rfl, h0, h1, h2⟩ := trodAll_three hA
  obtain ⟨rfl, rfl⟩ := trodVars_none hV
  obtain ⟨x0, rfl, rfl, rfl, w0⟩ := open_int (show Tryd.prog.underlying 3 = some (.int .i64) by kernel_rfl) (hval 0 3 v0 rfl rfl) h0
  obtain ⟨s1, rfl, rfl, rfl, hs1⟩ := open_string (show Tryd.prog.underlying 9 = some .string by kernel_rfl) (hval 1 9 v1 rfl rfl) h1
  obtain ⟨s2, rfl, rfl, rfl, hs2⟩ := open_string (show Tryd.prog.underlying 9 = some .string by kernel_rfl) (hval 2 9 v2 rfl rfl) h2
  have hT := tab_of_laid hL
  have fin : Calls Tryd.prog 3 #[.int .i64 x0, .string s1, .string s2] W fun e w' => e = .returned (.bool true) ∧ Below W.heap.size W w' := by
    exact sums_walk x0 s1 s2 W hT
  refine fin.mono fun e W' ⟨he, hb⟩ => ?_
  subst he
  exact ⟨_, rfl, law_post Tryd.laidOut (by kernel_rfl) (t := 4) rfl Tryd.underlying4 rfl hW' rfl rfl rfl hb⟩
theorem blakeSums_holds : Rows.BlakeSumsSaid :=
  OpenClaim.holds_of_wide 3 Tryd.f3 rfl rfl rfl rfl rfl rfl rfl ⟨rfl, rfl, rfl, rfl, rfl⟩ rfl rfl rfl rfl rfl (by kernel_rfl) Tryd.func3 (by kernel_rfl)
    (of_decide_eq_true (by kernel_rfl)) (by unfold Func.isWrapper; first | (rw [if_pos (by decide +kernel)]; kernel_rfl) | (rw [if_neg (by decide +kernel)]; exact ⟨rfl, rfl⟩))
    (fun os started H enc _ => blakeSums_lifted os started H enc)
theorem blakeSums_stand (j : Nat) (t : TypeId) (h : Tryd.f3.params[j]? = some t) : Tryd.prog.wantsStandIn t = false := by
  rw [Tryd.params3] at h
  have hj : j < 3 := by
    have := (Array.getElem?_eq_some_iff.1 h).1
    simpa using this
  rcases (by omega : j = 0 ∨ j = 1 ∨ j = 2) with rfl | rfl | rfl
  · have ht : t = 3 := by simpa using h.symm
    subst ht
    exact (show Tryd.prog.wantsStandIn 3 = false by kernel_rfl)
  · have ht : t = 9 := by simpa using h.symm
    subst ht
    exact (show Tryd.prog.wantsStandIn 9 = false by kernel_rfl)
  · have ht : t = 9 := by simpa using h.symm
    subst ht
    exact (show Tryd.prog.wantsStandIn 9 = false by kernel_rfl)
theorem blakeSumsCard_holds : Rows.BlakeSumsCardSaid :=
  Claim7.holds_tied_plain_at .later [] [.data] true (true, "fb9db02c5493408400a4f1c9800a3719dfea66a9ee598d599d330f671175d9f8") false
    blakeSums_holds (fun _ h => by cases h) (by kernel_rfl) (fun _ h => by cases h) blakeSums_row_tie rfl ⟨rfl, rfl⟩ (by kernel_rfl) rfl
    (fun f fn hf hfn => by
      obtain rfl : f = 3 := Option.some.inj ((show Tryd.prog.funcNamed "isthmus/isthmuslaw06.BlakeSums" = some 3 by kernel_rfl).symm.trans hf) |>.symm
      obtain rfl : fn = Tryd.f3 := (Option.some.inj (Tryd.func3.symm.trans hfn)).symm
      exact ⟨by kernel_rfl, fun j t ht => blakeSums_stand j t ht⟩)
    (by kernel_rfl)

end Go.Proofs.YtfminodongcelaaDoor
