/-
  The walk.
-/
import Derived.Test.YtoplbfijodebmaaGreatDoorS42UA
set_option linter.unusedVariables false
set_option linter.unusedSimpArgs false
set_option maxRecDepth 100000
set_option maxHeartbeats 40000000
namespace Go.Proofs.YtoplbfijodebmaaGreatDoor
open Go.RowKit T
def reachN : Nat := 140737488355328
theorem ag23 : AgTy 23 4 := agTy (by kernel_rfl)
theorem ap_i {N z : Nat} (h : N ≤ 4096) (h2 : z ≤ reachN) : ∃ R M : Nat, M = N + 8 + z ∧ (N : Int) ≤ 4096 ∧ IntKind.i64.wrap ((N : Int) + 8) = R ∧ wrap64 ((N : Int) + 8) = R ∧ IntKind.i64.wrap ((R : Int) + (z : Int)) = M ∧ wrap64 ((R : Int) + (z : Int)) = M := by
 unfold reachN at h2
 refine ⟨N + 8, N + 8 + z, rfl, by omega, ?_, ?_, ?_, ?_⟩
 ·rw [show (N : Int) + 8 = ((N + 8 : Nat) : Int) by omega]; exact IntWalk.i64_in _ (by omega)
 ·unfold wrap64; omega
 ·rw [show ((N + 8 : Nat) : Int) + (z : Int) = ((N + 8 + z : Nat) : Int) by omega]; exact IntWalk.i64_in _ (by omega)
 unfold wrap64; omega
theorem big_i {N : Nat} (h : ¬ N ≤ 4096) : (4096 : Int) < N ∧ ¬ (N : Int) ≤ 4096 := by omega
theorem small_i {N : Nat} (h : N ≤ 4096) : (N : Int) ≤ 4096 ∧ ¬ (4096 : Int) < N := by omega
theorem lt_i {i n : Nat} (h : i < n) : (i : Int) < n := Int.ofNat_lt.2 h
theorem nlt_i {i n : Nat} (h : ¬ i < n) : ¬ (i : Int) < n := fun e => h (Int.ofNat_lt.1 e)
theorem n32_i {s : ByteArray} (h : ¬ s.size = 32) : ¬ (s.size : Int) = 32 := by omega
theorem sucR {i n : Nat} (h : i < n) (hn : n ≤ reachN) : IntKind.i64.wrap ((i : Int) + 1) = ((i + 1 : Nat) : Int) ∧ wrap64 ((i : Int) + 1) = ((i + 1 : Nat) : Int) := by
 unfold reachN at hn
 constructor
 ·rw [show (i : Int) + 1 = ((i + 1 : Nat) : Int) by omega]; exact IntWalk.i64_in _ (by omega)
 unfold wrap64; omega
end Go.Proofs.YtoplbfijodebmaaGreatDoor
