/-
  CodeReads: the row: for every text and every script.
-/
import Derived.Test.YtojfjjlmlefoiaaReadsWalk
set_option linter.unusedVariables false
namespace Go.Proofs.Ytojfjjlmlefoiaa
open Go.ChangeShapes Go.WideShapes Go.ChangeAt Go.RowKit
open Go.ChangeMaps (open_string shut_string)
open Go.Deep

theorem Try.cells51 : Try.prog.cellsOf 51 = 2 := by kernel_rfl
theorem Try.cells3 : Try.prog.cellsOf 3 = 1 := by kernel_rfl

theorem open_steps {H : Type} {enc : TypeId × Value → H} {W : World} {fuel : Nat} {ao : Option Addr} {len cap : Nat} {x : DataW H × List MemPlace}
    (hf : DataW.trod enc Try.prog W 0 (fun _ => true) true fuel 46 (Value.slice ao len cap).cells.toList = some x) (h00 : len ≠ 0) :
    ∃ b off, ao = some ⟨b, off, none⟩ ∧ len ≤ cap ∧ cap ≤ maxLen ∧ b < W.heap.size ∧
      ∀ k, k < len → ∃ d n : Int, W.cell? ⟨b, off + k * 2, none⟩ = some (.int .i64 d) ∧ W.cell? ⟨b, off + k * 2 + 1, none⟩ = some (.int .i64 n) := by
  have hop := Deep.open_slice_pairs (P := Try.prog) Try.underlying46 Try.underlying51 Try.cells51 rfl rfl Try.cells3 Try.cells3 hf
  rcases hop with ⟨hcs, _⟩ | ⟨a, len', cap', m, n, V0, V1, D0, D1, P0, P1, hcs, _, hl, hm, hmm, hx, hel⟩
  · simp [Value.cells] at hcs
    omega
  · simp [Value.cells] at hcs
    obtain ⟨rfl, rfl, rfl⟩ := hcs
    simp only [if_true] at hmm
    subst hmm
    obtain ⟨b, off, spot⟩ := a
    have hspot : spot = none := by simpa [Addr.add] using World.cell?_spot (hel 0 (by omega)).1
    subst hspot
    refine ⟨b, off, rfl, hl, hm, ?_, fun k hk => ?_⟩
    · have := World.block_lt_of_cell? _ _ (hel 0 (by omega)).1
      rw [add_plain] at this
      exact this
    · obtain ⟨e0, e1, t0, t1⟩ := hel k (by omega)
      rw [add_plain] at e0 e1
      obtain ⟨d, x0, _, _⟩ := DataW.trod_int Try.underlying3 t0
      obtain ⟨d', y0, _, _⟩ := DataW.trod_int Try.underlying3 t1
      simp only [List.cons.injEq, and_true] at x0 y0
      rw [x0] at e0
      rw [y0] at e1
      exact ⟨d, d', e0, e1⟩

set_option maxRecDepth 100000 in
theorem reads_lifted (os : Os) (started : os.Started) (H : Type) (enc : TypeId × Value → H) :
    ReturnsInHanded {} Try.checked os 5 .any (Rows.codeReadsSpec.pre6 enc Try.prog Try.f5 Rows.codeReadsRow.domain false) (Rows.codeReadsSpec.post enc Try.prog Try.f5 false true false false) := by
  refine returnsInHanded_of_change (C := Try.checked) Try.own started (by kernel_rfl) Try.func5
    (ChangeSpec.witness6 (enc := enc) (C := Try.checked) false ⟨#[], #[.string .empty, .slice none 0 0], []⟩ 8 (by kernel_rfl) (by kernel_rfl) (by kernel_rfl) (by kernel_rfl)) ?_
  intro W base args ds gs before hval0 hW _ _
  have hval : ∀ (j : Nat) t v, Try.f5.params[j]? = some t → args[j]? = some v → Value.okWide Try.prog W .any base t v := hval0
  have hW' := hW
  obtain ⟨p, q, hA0, hV, rfl, _, _⟩ := hW
  have hA : DataW.TrodAll enc Try.prog W 0 (fun _ => true) true Try.f5.params.toList args.toList ds p := hA0
  rw [Try.params5] at hA hval
  obtain ⟨v0, v1, d0, d1, p0, p1, rfl, rfl, rfl, h0, h1⟩ := trodAll_two hA
  obtain ⟨rfl, rfl⟩ := trodVars_none hV
  obtain ⟨s, rfl, rfl, rfl, hs⟩ := open_string Try.underlying9 (hval 0 9 v0 rfl rfl) h0
  obtain ⟨ao, len, cap, rfl⟩ := okWide_slice Try.underlying46 (hval 1 46 v1 rfl rfl)
  have hlt : ∀ x ∈ p1, x.block < W.heap.size := fun x hx => hW'.lt x (by simp [hx])
  have fin : Calls Try.prog 5 #[.string s, .slice ao len cap] W fun e w' => e = .returned (.bool true) ∧ Below W.heap.size W w' := by
    by_cases hb : s.size ≤ 131072
    · by_cases h00 : len = 0
      · subst h00
        exact reads_empty s ao cap W hb
      · obtain ⟨fuel, hf⟩ := h1
        obtain ⟨b, off, rfl, hl, hm, hbw, hsc⟩ := open_steps hf h00
        by_cases hn : len ≤ 200
        · exact reads_walk s b off len cap W hb (by omega) hn hbw hsc
        · exact reads_many s _ len cap W hb (by omega) (by omega)
    · exact reads_long s _ W (by omega) hs
  refine fin.mono fun e W' ⟨he, hb⟩ => ?_
  subst he
  exact ⟨_, rfl, law_post Try.laidOut (by kernel_rfl) (t := 4) rfl Try.underlying4 rfl hW' rfl rfl rfl hb⟩

theorem reads_holds : Rows.CodeReadsSaid :=
  OpenClaim.holds_of_wide 5 Try.f5 rfl rfl rfl rfl rfl rfl rfl ⟨rfl, rfl, rfl, rfl, rfl⟩ rfl rfl rfl rfl rfl (by kernel_rfl) Try.func5 (by kernel_rfl)
    (of_decide_eq_true (by kernel_rfl)) (by unfold Func.isWrapper; first | (rw [if_pos (by decide +kernel)]; kernel_rfl) | (rw [if_neg (by decide +kernel)]; exact ⟨rfl, rfl⟩))
    (fun os started H enc _ => reads_lifted os started H enc)

end Go.Proofs.Ytojfjjlmlefoiaa
