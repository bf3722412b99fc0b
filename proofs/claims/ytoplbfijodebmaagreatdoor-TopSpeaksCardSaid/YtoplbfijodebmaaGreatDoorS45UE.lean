/-
  The walk.
-/
import Derived.Test.YtoplbfijodebmaaGreatDoorS43UC
import Derived.Test.YtoplbfijodebmaaGreatDoorM46Laid
import Derived.Test.YtoplbfijodebmaaGreatDoorCards
import Derived.Test.YtoplbfijodebmaaGreatDoorTie
import Derived.ChangeMaps5
import Derived.SliceStrings
import Derived.Deep.SlicePairs
set_option linter.unusedVariables false
set_option linter.unusedSimpArgs false
set_option maxRecDepth 100000
set_option maxHeartbeats 40000000
namespace Go.Proofs.YtoplbfijodebmaaGreatDoor
open Go.ChangeShapes Go.WideShapes Go.ChangeAt Go.RowKit
open Go.ChangeMaps (open_string shut_string)
theorem cell_string {W : World} {r : Reach} {base : Nat} {v : Value} (h : Cell.okWide Tryz.prog W r base 9 v) : ∃ s : ByteArray, v = .string s := by
 simp only [Cell.okWide, Tryz.underlying9] at h
 cases v <;> simp_all [Cell.ok, Tryz.underlying9, IntKind.max, IntKind.signed, IntKind.bits]
theorem row_of {W : World} {r : Reach} {base t : Nat} {v : Value} {ts : List TypeId} {n : Nat} (hu : (match Tryz.prog.underlying t with | some (.struct _) => true | _ => false) = true) (hts : Tryz.prog.cellTypes Tryz.prog.depth t = some ts) (hn : Tryz.prog.cellsOf t = n) (hl : ts.length = n)
  (h : Value.okWide Tryz.prog W r base t v) : ∃ cs : Array Value, v = .agg cs ∧ cs.size = n ∧ ∀ (i : Nat) (x : Value) (u : TypeId), cs[i]? = some x → ts[i]? = some u → Cell.okWide Tryz.prog W r base u x := by
 unfold Value.okWide at h
 cases hq : Tryz.prog.underlying t with
 | none => simp [hq] at hu
 | some d =>
  cases d <;> simp [hq] at hu
  simp only [hq] at h
  obtain ⟨cs, rfl, hs, ts', h1, _, h2⟩ := h
  rw [hts] at h1
  obtain rfl := Option.some.inj h1
  refine ⟨cs, rfl, hs.trans hn, fun i x u hx hu' => ?_⟩
  obtain ⟨u', h3, h4⟩ := h2 i x hx
  have hi : i < ts.length := by
   have := (Array.getElem?_eq_some_iff.1 hx).1
   omega
  rw [Nat.mod_eq_of_lt hi, hu'] at h3
  obtain rfl := Option.some.inj h3
  exact h4
theorem open_sh {W : World} {r : Reach} {base : Nat} {v : Value} (h : Value.okWide Tryz.prog W r base 23 v) : ∃ A B E F : ByteArray, v = .agg (shC A B E F) := by
 obtain ⟨cs, rfl, hs, hc⟩ := row_of (ts := [9, 9, 9, 9]) (n := 4) (by kernel_rfl) (by kernel_rfl) (by kernel_rfl) rfl h
 obtain ⟨l⟩ := cs
 match l, hs with
 | [c0, c1, c2, c3], _ =>
  obtain ⟨A, rfl⟩ := cell_string (hc 0 c0 9 rfl rfl)
  obtain ⟨B, rfl⟩ := cell_string (hc 1 c1 9 rfl rfl)
  obtain ⟨E, rfl⟩ := cell_string (hc 2 c2 9 rfl rfl)
  obtain ⟨F, rfl⟩ := cell_string (hc 3 c3 9 rfl rfl)
  exact ⟨A, B, E, F, rfl⟩
end Go.Proofs.YtoplbfijodebmaaGreatDoor
