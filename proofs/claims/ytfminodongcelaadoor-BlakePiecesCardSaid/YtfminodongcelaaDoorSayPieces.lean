/-
  The sum hangs on the bytes alone, not on how they came; it may be asked for at any time. For every size, key and pieces: no conditions.
-/
import Derived.Test.YtfminodongcelaaDoorPiecesWalk
import Derived.Test.YtfminodongcelaaDoorLaid
import Derived.Test.YtfminodongcelaaDoorCards
import Derived.Test.YtfminodongcelaaDoorTie
import Derived.ChangeMaps5
import Derived.SliceStrings
import Derived.Deep.SlicePairs
set_option linter.unusedVariables false
namespace Go.Proofs.YtfminodongcelaaDoor
open Go.ChangeShapes Go.WideShapes Go.ChangeAt Go.RowKit
open Go.ChangeMaps (open_string shut_string)

theorem open_strs {H : Type} {enc : TypeId × Value → H} {W : World} {fuel : Nat} {ao : Option Addr} {len cap : Nat} {d : DataW H} {p : List MemPlace}
    (hf : DataW.trod enc Tryd.prog W 0 (fun _ => true) true fuel 33 (Value.slice ao len cap).cells.toList = some (d, p)) :
    ∃ l : List ByteArray, l.length = len ∧ StrsAt W ao l ∧ len ≤ maxLen := by
  rcases open_strings (show Tryd.prog.underlying 33 = some (.slice 9) by kernel_rfl) (show Tryd.prog.underlying 9 = some .string by kernel_rfl) (show Tryd.prog.cellsOf 9 = 1 by kernel_rfl) hf with ⟨hcs, _⟩ | ⟨a, len', cap', ss, hcs, _, hl, hm, hz, _, hcell, _⟩
  · simp [Value.cells] at hcs
    obtain ⟨rfl, rfl, rfl⟩ := hcs
    exact ⟨[], rfl, fun k hk => absurd hk (by simp), Nat.zero_le _⟩
  · simp [Value.cells] at hcs
    obtain ⟨rfl, rfl, rfl⟩ := hcs
    simp only [if_true] at hz
    refine ⟨ss.take len, by simp; omega, fun k hk => ?_, by omega⟩
    have hk' : k < len := by simp at hk; omega
    obtain ⟨b, off, spot⟩ := a
    have hspot : spot = none := by simpa [Addr.add] using World.cell?_spot (hcell 0 (by omega))
    subst hspot
    have e0 := hcell k (by omega)
    rw [Addr.add_lit] at e0
    refine ⟨b, off, rfl, World.block_lt_of_cell? _ _ e0, ?_⟩
    rw [e0, List.getElem_take, List.getD_eq_getElem?_getD, List.getElem?_eq_getElem (by omega)]
    rfl

set_option maxRecDepth 100000 in
theorem blakePieces_lifted (os : Os) (started : os.Started) (H : Type) (enc : TypeId × Value → H) :
    ReturnsInHanded {} Tryd.checked os 4 .any (fun w args => (Rows.blakePiecesSpec.pre enc Tryd.prog Tryd.f4 Rows.blakePiecesRow.domain false w args ∧ laidMet Tryd.prog Rows.blakePiecesRow.laid w) ∧ sizedMet enc Tryd.prog Tryd.f4 (OpenSpec.ofChange Rows.blakePiecesSpec) false w args)
      (Rows.blakePiecesSpec.post enc Tryd.prog Tryd.f4 false true false false) := by
  refine returnsInHanded_of_change_and (C := Tryd.checked) (X := fun w _ => laidMet Tryd.prog Rows.blakePiecesRow.laid w) (fun _ _ _ hh h => h.of_heap hh) Tryd.own started (by kernel_rfl) Tryd.func4
    (ChangeSpec.witness_at (enc := enc) (C := Tryd.checked) (os := os) (X := fun w _ => laidMet Tryd.prog Rows.blakePiecesRow.laid w) false (tabWorld os) #[.int .i64 1, .string .empty, .slice none 0 0] 8 rfl (by kernel_rfl) (by kernel_rfl) (by kernel_rfl) (by kernel_rfl) (by kernel_rfl) (tab_met os _)) ?_
  intro W base args ds gs before hval0 hW _ _ hL _
  have hval : ∀ (j : Nat) t v, Tryd.f4.params[j]? = some t → args[j]? = some v → Value.okWide Tryd.prog W .any base t v := hval0
  have hW' := hW
  obtain ⟨p, q, hA0, hV, rfl, _, _⟩ := hW
  have hA : DataW.TrodAll enc Tryd.prog W 0 (fun _ => true) true Tryd.f4.params.toList args.toList ds p := hA0
  rw [Tryd.params4] at hA hval
  obtain ⟨v0, v1, v2, d0, d1, d2, p0, p1, p2, rfl, rfl, rfl, h0, h1, h2⟩ := trodAll_three hA
  obtain ⟨rfl, rfl⟩ := trodVars_none hV
  obtain ⟨x0, rfl, rfl, rfl, w0⟩ := open_int (show Tryd.prog.underlying 3 = some (.int .i64) by kernel_rfl) (hval 0 3 v0 rfl rfl) h0
  obtain ⟨s1, rfl, rfl, rfl, hs1⟩ := open_string (show Tryd.prog.underlying 9 = some .string by kernel_rfl) (hval 1 9 v1 rfl rfl) h1
  obtain ⟨a2, l2, c2, rfl⟩ := okWide_slice (show Tryd.prog.underlying 33 = some (.slice 9) by kernel_rfl) (hval 2 33 v2 rfl rfl)
  have hT := tab_of_laid hL
  have fin : Calls Tryd.prog 4 #[.int .i64 x0, .string s1, .slice a2 l2 c2] W fun e w' => e = .returned (.bool true) ∧ Below W.heap.size W w' := by
    obtain ⟨fuel, hf⟩ := h2
    obtain ⟨ll, hll, hS, hlm⟩ := open_strs hf
    subst hll
    exact pieces_walk x0 s1 a2 c2 ll W hT (Lib.hid hS) hlm
  refine fin.mono fun e W' ⟨he, hb⟩ => ?_
  subst he
  exact ⟨_, rfl, law_post Tryd.laidOut (by kernel_rfl) (t := 4) rfl Tryd.underlying4 rfl hW' rfl rfl rfl hb⟩
theorem blakePieces_holds : Rows.BlakePiecesSaid :=
  OpenClaim.holds_of_wide 4 Tryd.f4 rfl rfl rfl rfl rfl rfl rfl ⟨rfl, rfl, rfl, rfl, rfl⟩ rfl rfl rfl rfl rfl (by kernel_rfl) Tryd.func4 (by kernel_rfl)
    (of_decide_eq_true (by kernel_rfl)) (by unfold Func.isWrapper; first | (rw [if_pos (by decide +kernel)]; kernel_rfl) | (rw [if_neg (by decide +kernel)]; exact ⟨rfl, rfl⟩))
    (fun os started H enc _ => blakePieces_lifted os started H enc)
theorem blakePieces_stand (j : Nat) (t : TypeId) (h : Tryd.f4.params[j]? = some t) : Tryd.prog.wantsStandIn t = false := by
  rw [Tryd.params4] at h
  have hj : j < 3 := by
    have := (Array.getElem?_eq_some_iff.1 h).1
    simpa using this
  rcases (by omega : j = 0 ∨ j = 1 ∨ j = 2) with rfl | rfl | rfl
  · have ht : t = 3 := by simpa using h.symm
    subst ht
    exact (show Tryd.prog.wantsStandIn 3 = false by kernel_rfl)
  · have ht : t = 9 := by simpa using h.symm
    subst ht
    exact (show Tryd.prog.wantsStandIn 9 = false by kernel_rfl)
  · have ht : t = 33 := by simpa using h.symm
    subst ht
    exact (show Tryd.prog.wantsStandIn 33 = false by kernel_rfl)
theorem blakePiecesCard_holds : Rows.BlakePiecesCardSaid :=
  Claim7.holds_tied_plain_at .later [] [.data] true (true, "fb9db02c5493408400a4f1c9800a3719dfea66a9ee598d599d330f671175d9f8") false
    blakePieces_holds (fun _ h => by cases h) (by kernel_rfl) (fun _ h => by cases h) blakePieces_row_tie rfl ⟨rfl, rfl⟩ (by kernel_rfl) rfl
    (fun f fn hf hfn => by
      obtain rfl : f = 4 := Option.some.inj ((show Tryd.prog.funcNamed "isthmus/isthmuslaw06.BlakePieces" = some 4 by kernel_rfl).symm.trans hf) |>.symm
      obtain rfl : fn = Tryd.f4 := (Option.some.inj (Tryd.func4.symm.trans hfn)).symm
      exact ⟨by kernel_rfl, fun j t ht => blakePieces_stand j t ht⟩)
    (by kernel_rfl)

end Go.Proofs.YtfminodongcelaaDoor
