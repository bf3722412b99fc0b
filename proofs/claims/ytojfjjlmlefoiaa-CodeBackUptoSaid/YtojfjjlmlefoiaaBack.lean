/-
  CodeBack, where what comes in is of bulk at most 1048576: what was written, one behind the other, is read as itself, and at its end.
-/
import Derived.Test.YtojfjjlmlefoiaaBackWalk
import Derived.JoinedCond
set_option linter.unusedVariables false
namespace Go.Proofs.Ytojfjjlmlefoiaa
open Go.ChangeShapes Go.WideShapes Go.ChangeAt Go.RowKit Go.WideElems
open Go.ChangeMaps (open_string shut_string)

theorem Try.cells22 : Try.prog.cellsOf 22 = 1 := by kernel_rfl
theorem Try.cells9 : Try.prog.cellsOf 9 = 1 := by kernel_rfl

theorem open_nums {H : Type} {enc : TypeId × Value → H} {W : World} {fuel : Nat} {ao : Option Addr} {len cap : Nat} {x : DataW H × List MemPlace}
    (hf : DataW.trod enc Try.prog W 0 (fun _ => true) true fuel 34 (Value.slice ao len cap).cells.toList = some x) :
    ∃ xs : List Nat, xs.length = len ∧ IntsAt W ao xs ∧ len ≤ maxLen := by
  rcases open_ints Try.underlying34 Try.underlying22 Try.cells22 hf with ⟨hcs, _⟩ | ⟨a, len', cap', zs, hcs, _, hl, hm, hz, hx, hcell, hwz⟩
  · simp [Value.cells] at hcs
    obtain ⟨rfl, rfl, rfl⟩ := hcs
    exact ⟨[], rfl, fun k hk => absurd hk (by simp), Nat.zero_le _⟩
  · simp [Value.cells] at hcs
    obtain ⟨rfl, rfl, rfl⟩ := hcs
    simp only [if_true] at hz
    refine ⟨(zs.take len).map Int.toNat, by simp; omega, fun k hk => ?_, by omega⟩
    have hk' : k < len := by simp at hk; omega
    obtain ⟨b, off, spot⟩ := a
    have hspot : spot = none := by simpa [Addr.add] using World.cell?_spot (hcell 0 (by omega))
    subst hspot
    have hc := hcell k (by omega)
    rw [add_plain] at hc
    have hz2 : zs.getD k 0 = zs[k]'(by omega) := by simp [List.getD, List.getElem?_eq_getElem (show k < zs.length by omega)]
    have hw := hwz (zs[k]'(by omega)) (List.getElem_mem _)
    have hb : 0 ≤ zs[k]'(by omega) ∧ zs[k]'(by omega) ≤ 18446744073709551615 := by simpa [Lit.wf, IntKind.min, IntKind.max, IntKind.signed, IntKind.bits] using hw
    rw [hz2] at hc
    refine ⟨b, off, rfl, World.block_lt_of_cell? _ _ hc, ?_, ?_⟩
    · rw [hc]
      simp only [List.getElem_map, List.getElem_take]
      congr 2
      omega
    · simp only [List.getElem_map, List.getElem_take]
      omega

theorem open_texts {H : Type} {enc : TypeId × Value → H} {W : World} {fuel : Nat} {ao : Option Addr} {len cap : Nat} {d : DataW H} {p : List MemPlace}
    (hf : DataW.trod enc Try.prog W 0 (fun _ => true) true fuel 35 (Value.slice ao len cap).cells.toList = some (d, p)) :
    ∃ ts : List ByteArray, ts.length = len ∧ StrsAt W ao ts ∧ len ≤ maxLen ∧ sumS ts ≤ Rows.uptoBulk d := by
  rcases open_strings Try.underlying35 Try.underlying9 Try.cells9 hf with ⟨hcs, _⟩ | ⟨a, len', cap', ss, hcs, _, hl, hm, hz, hx, hcell, hws⟩
  · simp [Value.cells] at hcs
    obtain ⟨rfl, rfl, rfl⟩ := hcs
    exact ⟨[], rfl, fun k hk => absurd hk (by simp), Nat.zero_le _, Nat.zero_le _⟩
  · simp [Value.cells] at hcs
    obtain ⟨rfl, rfl, rfl⟩ := hcs
    simp only [if_true] at hz
    simp only [Prod.mk.injEq] at hx
    obtain ⟨rfl, rfl⟩ := hx
    refine ⟨ss.take len, by simp; omega, fun k hk => ?_, by omega, ?_⟩
    · have hk' : k < len := by simp at hk; omega
      obtain ⟨b, off, spot⟩ := a
      have hspot : spot = none := by simpa [Addr.add] using World.cell?_spot (hcell 0 (by omega))
      subst hspot
      have hc := hcell k (by omega)
      rw [add_plain] at hc
      have hz2 : ss.getD k .empty = ss[k]'(by omega) := by simp [List.getD, List.getElem?_eq_getElem (show k < ss.length by omega)]
      rw [hz2] at hc
      refine ⟨b, off, rfl, World.block_lt_of_cell? _ _ hc, ?_⟩
      rw [hc]
      simp only [List.getElem_take]
    · have h : ∀ l : List ByteArray, sumS l ≤ Rows.uptoBulkAll (strs (H := H) l) := by
        intro l
        induction l with
        | nil => exact Nat.zero_le _
        | cons u l ih =>
          simp only [strs, List.map_cons, Rows.uptoBulkAll, Rows.uptoBulk, sumS] at ih ⊢
          have e : u.data.toList.length = u.size := by rw [Array.length_toList]; rfl
          omega
      have := h (ss.take len)
      simp only [Rows.uptoBulk]
      omega

set_option maxRecDepth 100000 in
theorem back_lifted (os : Os) (started : os.Started) (H : Type) (enc : TypeId × Value → H) (F : Stop.Interp) :
    ReturnsInHanded {} Try.checked os 4 .any ((Rows.OpenSpec.upto Rows.codeBackSpec).pre6 enc Try.prog Try.f4 Rows.codeBackUptoRow.domain false) (((Rows.OpenSpec.upto Rows.codeBackSpec).at F).post enc Try.prog Try.f4 false true false false) := by
  refine returnsInHanded_of_cond (C := Try.checked) (s := Rows.OpenSpec.upto Rows.codeBackSpec) (k := Rows.uptoSmall) rfl Try.own started (by kernel_rfl) Try.func4
    (OpenSpec.witness (enc := enc) (C := Try.checked) (s := Rows.OpenSpec.upto Rows.codeBackSpec) (k := Rows.uptoSmall) rfl false ⟨#[], #[.slice none 0 0, .slice none 0 0, .string .empty], []⟩ 8 (by kernel_rfl) (by kernel_rfl) (by kernel_rfl)
      (x := ([.nil, .nil, .lit (.string [])], [], [])) (by kernel_rfl) rfl (by kernel_rfl)) ?_
  intro W base args ds gs before hval0 hW _ hk _
  have hval : ∀ (j : Nat) t v, Try.f4.params[j]? = some t → args[j]? = some v → Value.okWide Try.prog W .any base t v := hval0
  have hW' := hW
  obtain ⟨p, q, hA0, hV, rfl, _, _⟩ := hW
  have hA : DataW.TrodAll enc Try.prog W 0 (fun _ => true) true Try.f4.params.toList args.toList ds p := hA0
  rw [Try.params4] at hA hval
  obtain ⟨v0, v1, v2, d0, d1, d2, p0, p1, p2, rfl, rfl, rfl, h0, h1, h2⟩ := trodAll_three hA
  obtain ⟨rfl, rfl⟩ := trodVars_none hV
  obtain ⟨s, rfl, rfl, rfl, hs⟩ := open_string Try.underlying9 (hval 2 9 v2 rfl rfl) h2
  obtain ⟨al, ll, cl, rfl⟩ := okWide_slice Try.underlying34 (hval 0 34 v0 rfl rfl)
  obtain ⟨tl, lt, ct, rfl⟩ := okWide_slice Try.underlying35 (hval 1 35 v1 rfl rfl)
  have fin : Calls Try.prog 4 #[.slice al ll cl, .slice tl lt ct, .string s] W fun e w' => e = .returned (.bool true) ∧ Below W.heap.size W w' := by
    obtain ⟨f0, hf0⟩ := h0
    obtain ⟨f1, hf1⟩ := h1
    obtain ⟨xs, hxl, hX, hxm⟩ := open_nums hf0
    obtain ⟨ts, htl, hT, htm, hsum⟩ := open_texts hf1
    have hk : Rows.uptoBulkAll [d0, d1, .lit (.string s.data.toList)] ≤ 1048576 := of_decide_eq_true hk
    simp only [Rows.uptoBulkAll] at hk
    have hsz : Rows.uptoBulk (DataW.lit (H := H) (.string s.data.toList)) = s.size + 1 := by
      simp only [Rows.uptoBulk]
      rw [Array.length_toList]; rfl
    rw [hsz] at hk
    clear hsz
    subst hxl htl
    by_cases hbig : 100 < xs.length ∨ 100 < ts.length ∨ 131072 < sumS ts + s.size
    · exact back_big al tl cl ct xs.length ts s W hbig hxm htm (by omega) (Lib.hid hT)
    · exact back_walk al tl cl ct xs ts s W (by omega) (by omega) (by omega) (Lib.hid hX) (Lib.hid hT)
  refine fin.mono fun e W' ⟨he, hb⟩ => ?_
  subst he
  exact ⟨_, rfl, law_post Try.laidOut (by kernel_rfl) (t := 4) rfl Try.underlying4 rfl hW' rfl rfl rfl hb⟩

theorem back_holds : Rows.CodeBackUptoSaid :=
  OpenClaim.holds_of_cond 4 Try.f4 rfl rfl rfl rfl rfl rfl rfl ⟨rfl, rfl, rfl, rfl, rfl⟩ rfl rfl rfl rfl rfl (by kernel_rfl) Try.func4 (by kernel_rfl)
    (of_decide_eq_true (by kernel_rfl)) (by unfold Func.isWrapper; first | (rw [if_pos (by decide +kernel)]; kernel_rfl) | (rw [if_neg (by decide +kernel)]; exact ⟨rfl, rfl⟩))
    (fun os started H enc _ F => back_lifted os started H enc F)
end Go.Proofs.Ytojfjjlmlefoiaa
