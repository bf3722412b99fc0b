/-
  Fewer bytes are the beginning of more; what a chain tells does not hang on how much of it is asked for. For every key, text and numbers: no conditions.
-/
import Derived.Test.YtfminodongcelaaDoorBeginsWalk
import Derived.Test.YtfminodongcelaaDoorLaid
import Derived.Test.YtfminodongcelaaDoorCards
import Derived.Test.YtfminodongcelaaDoorTie
import Derived.ChangeMaps5
import Derived.SizedLaws
set_option linter.unusedVariables false
namespace Go.Proofs.YtfminodongcelaaDoor
open Go.ChangeShapes Go.WideShapes Go.ChangeAt Go.RowKit
open Go.ChangeMaps (open_string shut_string)

set_option maxRecDepth 100000 in
theorem kdfBegins_lifted (os : Os) (started : os.Started) (H : Type) (enc : TypeId × Value → H) :
    ReturnsInHanded {} Tryd.checked os 9 .any (fun w args => (Rows.kdfBeginsSpec.pre enc Tryd.prog Tryd.f9 Rows.kdfBeginsRow.domain false w args ∧ laidMet Tryd.prog Rows.kdfBeginsRow.laid w) ∧ sizedMet enc Tryd.prog Tryd.f9 (OpenSpec.ofChange Rows.kdfBeginsSpec) false w args)
      (Rows.kdfBeginsSpec.post enc Tryd.prog Tryd.f9 false true false false) := by
  refine returnsInHanded_of_change_and (C := Tryd.checked) (X := fun w _ => laidMet Tryd.prog Rows.kdfBeginsRow.laid w) (fun _ _ _ hh h => h.of_heap hh) Tryd.own started (by kernel_rfl) Tryd.func9
    (ChangeSpec.witness_at (enc := enc) (C := Tryd.checked) (os := os) (X := fun w _ => laidMet Tryd.prog Rows.kdfBeginsRow.laid w) false (tabWorld os) #[.string .empty, .string .empty, .int .i64 1, .int .i64 1] 8 rfl (by kernel_rfl) (by kernel_rfl) (by kernel_rfl) (by kernel_rfl) (by kernel_rfl) (tab_met os _)) ?_
  intro W base args ds gs before hval0 hW _ hsz hL _
  have hval : ∀ (j : Nat) t v, Tryd.f9.params[j]? = some t → args[j]? = some v → Value.okWide Tryd.prog W .any base t v := hval0
  have hW' := hW
  obtain ⟨p, q, hA0, hV, rfl, _, _⟩ := hW
  have hA : DataW.TrodAll enc Tryd.prog W 0 (fun _ => true) true Tryd.f9.params.toList args.toList ds p := hA0
  rw [Tryd.params9] at hA hval hsz
  obtain ⟨v0, v1, v2, v3, d0, d1, d2, d3, p0, p1, p2, p3, rfl, rfl, rfl, h0, h1, h2, h3⟩ := trodAll_four hA
  obtain ⟨rfl, rfl⟩ := trodVars_none hV
  obtain ⟨s0, rfl, rfl, rfl, hs0⟩ := open_string (show Tryd.prog.underlying 9 = some .string by kernel_rfl) (hval 0 9 v0 rfl rfl) h0
  obtain ⟨s1, rfl, rfl, rfl, hs1⟩ := open_string (show Tryd.prog.underlying 9 = some .string by kernel_rfl) (hval 1 9 v1 rfl rfl) h1
  obtain ⟨x2, rfl, rfl, rfl, w2⟩ := open_int (show Tryd.prog.underlying 3 = some (.int .i64) by kernel_rfl) (hval 2 3 v2 rfl rfl) h2
  obtain ⟨x3, rfl, rfl, rfl, w3⟩ := open_int (show Tryd.prog.underlying 3 = some (.int .i64) by kernel_rfl) (hval 3 3 v3 rfl rfl) h3
  have hz0 : s0.size ≤ 140737488355328 := by
    have := sized_string hsz (j := 0) (t := 9) rfl rfl
    rw [Lib.size_eq]
    simp only [reachBytes] at this
    omega
  have hz1 : s1.size ≤ 140737488355328 := by
    have := sized_string hsz (j := 1) (t := 9) rfl rfl
    rw [Lib.size_eq]
    simp only [reachBytes] at this
    omega
  have hT := tab_of_laid hL
  have fin : Calls Tryd.prog 9 #[.string s0, .string s1, .int .i64 x2, .int .i64 x3] W fun e w' => e = .returned (.bool true) ∧ Below W.heap.size W w' := by
    exact begins_walk s0 s1 x2 x3 W hT hz0 hz1
  refine fin.mono fun e W' ⟨he, hb⟩ => ?_
  subst he
  exact ⟨_, rfl, law_post Tryd.laidOut (by kernel_rfl) (t := 4) rfl Tryd.underlying4 rfl hW' rfl rfl rfl hb⟩
theorem kdfBegins_holds : Rows.KdfBeginsSaid :=
  OpenClaim.holds_of_wide 9 Tryd.f9 rfl rfl rfl rfl rfl rfl rfl ⟨rfl, rfl, rfl, rfl, rfl⟩ rfl rfl rfl rfl rfl (by kernel_rfl) Tryd.func9 (by kernel_rfl)
    (of_decide_eq_true (by kernel_rfl)) (by unfold Func.isWrapper; first | (rw [if_pos (by decide +kernel)]; kernel_rfl) | (rw [if_neg (by decide +kernel)]; exact ⟨rfl, rfl⟩))
    (fun os started H enc _ => kdfBegins_lifted os started H enc)
theorem kdfBegins_stand (j : Nat) (t : TypeId) (h : Tryd.f9.params[j]? = some t) : Tryd.prog.wantsStandIn t = false := by
  rw [Tryd.params9] at h
  have hj : j < 4 := by
    have := (Array.getElem?_eq_some_iff.1 h).1
    simpa using this
  rcases (by omega : j = 0 ∨ j = 1 ∨ j = 2 ∨ j = 3) with rfl | rfl | rfl | rfl
  · have ht : t = 9 := by simpa using h.symm
    subst ht
    exact (show Tryd.prog.wantsStandIn 9 = false by kernel_rfl)
  · have ht : t = 9 := by simpa using h.symm
    subst ht
    exact (show Tryd.prog.wantsStandIn 9 = false by kernel_rfl)
  · have ht : t = 3 := by simpa using h.symm
    subst ht
    exact (show Tryd.prog.wantsStandIn 3 = false by kernel_rfl)
  · have ht : t = 3 := by simpa using h.symm
    subst ht
    exact (show Tryd.prog.wantsStandIn 3 = false by kernel_rfl)
theorem kdfBeginsCard_holds : Rows.KdfBeginsCardSaid :=
  Claim7.holds_tied_plain_at .later [] [.data] true (true, "fb9db02c5493408400a4f1c9800a3719dfea66a9ee598d599d330f671175d9f8") false
    kdfBegins_holds (fun _ h => by cases h) (by kernel_rfl) (fun _ h => by cases h) kdfBegins_row_tie rfl ⟨rfl, rfl⟩ (by kernel_rfl) rfl
    (fun f fn hf hfn => by
      obtain rfl : f = 9 := Option.some.inj ((show Tryd.prog.funcNamed "isthmus/isthmuslaw07.KdfBegins" = some 9 by kernel_rfl).symm.trans hf) |>.symm
      obtain rfl : fn = Tryd.f9 := (Option.some.inj (Tryd.func9.symm.trans hfn)).symm
      exact ⟨by kernel_rfl, fun j t ht => kdfBegins_stand j t ht⟩)
    (by kernel_rfl)

end Go.Proofs.YtfminodongcelaaDoor
