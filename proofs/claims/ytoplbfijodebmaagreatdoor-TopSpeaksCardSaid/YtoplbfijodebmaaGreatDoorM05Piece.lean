/-
  The walk.
-/
import Derived.Test.YtoplbfijodebmaaGreatDoorM04Mix
import Derived.Laws.IdiomStrings
import Derived.Deep.Cut
set_option linter.unusedVariables false
set_option linter.unusedSimpArgs false
set_option maxRecDepth 100000
set_option maxHeartbeats 40000000
namespace Go.Proofs.YtoplbfijodebmaaGreatDoor
open Go.RowKit
theorem bt_get (p : ByteArray) (k : Nat) (h : k < p.size) : (p[k]'h).toNat = bt p k := by
 unfold bt
 rw [gDx]
 have hd : k < p.data.size := h
 rw [Array.getElem?_eq_getElem hd]
 rfl
theorem sg_lt : ∀ r < 10, ∀ i < 16, sg r i < 16 := by decide +kernel
theorem Row.of_eq {w : World} {b t n : Nat} {v u : List Nat} (h : Row w b t n v) (e : v = u) : Row w b t n u := e ▸ h
theorem Only.setRowNew {V O : Nat} {w4 w : World} (h : Only V w4 w) (hO : w4.heap.size ≤ O) (cs : Array Value) : Only V w4 (w.setRow O cs) :=
 ⟨h.os, h.tape, h.output, by have := h.size; simp [World.setRow]; exact this, fun j hj hb => (setRow_other w O j cs (by omega)).trans (h.block j hj hb)⟩
theorem measI (n k : Nat) (h : k < n) : n - (intOf (.int .i64 ((k : Int) + 1))).toNat < n - (intOf (.int .i64 (k : Int))).toNat := by simp [intOf]; omega
theorem succI (k : Nat) : Value.int .i64 ((k : Int) + 1) = .int .i64 ((k + 1 : Nat) : Int) := by simp
theorem rng10 (r : Nat) (h : r < 10) : (0 : Int) ≤ r ∧ (r : Int) < 10 := by omega
theorem rng8 (r : Nat) (h : r < 8) : (0 : Int) ≤ r ∧ (r : Int) < 8 ∧ (r : Int) < 16 ∧ r < 16 ∧ 8 + r < 16 := by omega
theorem isN {k n : Nat} (h : k ≤ n) (h2 : ¬ k < n) : k = n := Nat.le_antisymm h (Nat.not_lt.1 h2)
theorem nltI {k n : Nat} (h2 : ¬ k < n) : ¬ (k : Int) < (n : Int) := by omega
theorem i64w {x : Int} {n : Nat} (h : x = n) (hn : n < 1000) : wrap64 x = n ∧ IntKind.i64.wrap x = n := by
 subst h
 exact ⟨by unfold wrap64; omega, IntWalk.i64_in _ (by omega)⟩
theorem ix8 (k : Nat) (h : k < 8) : ∃ j : Nat, j = 8 + k ∧ wrap64 (8 + (k : Int)) = j ∧ IntKind.i64.wrap (8 + (k : Int)) = j ∧ (0 : Int) ≤ j ∧ (j : Int) < 16 ∧ j < 16 :=
 ⟨8 + k, rfl, (i64w (by omega) (by omega)).1, (i64w (by omega) (by omega)).2, by omega⟩
theorem two16 (x y : Nat) (hx : x < 16) (hy : y < 16) : (0 : Int) ≤ x ∧ (x : Int) < 16 ∧ (0 : Int) ≤ y ∧ (y : Int) < 16 := by omega
end Go.Proofs.YtoplbfijodebmaaGreatDoor
