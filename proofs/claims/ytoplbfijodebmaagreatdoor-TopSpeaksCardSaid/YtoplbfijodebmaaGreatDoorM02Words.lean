/-
  The walk.
-/
import Derived.Test.YtoplbfijodebmaaGreatDoorM01Law
import Derived.WalkSpells
import Derived.Outline
import Derived.Lib.Hide
import Derived.Handy
import Derived.Deep.RegionHeld3
import Derived.Deep.QuietTactic
import Derived.BigQuiet
import Derived.BigRegion
import Derived.Laws.BitsAllLaws
import Derived.Laws.IdiomStrings
set_option linter.unusedVariables false
set_option linter.unusedSimpArgs false
set_option maxRecDepth 100000
set_option maxHeartbeats 40000000
namespace Go.Proofs.YtoplbfijodebmaaGreatDoor
open Go.RowKit
def add32 (a b : Nat) : Nat := (a + b) % 4294967296
def rotr (x r : Nat) : Nat := (x / 2 ^ r) ||| (x * 2 ^ (32 - r) % 4294967296)
theorem add32_lt (a b : Nat) : add32 a b < 4294967296 := Nat.mod_lt _ (by decide)
theorem rotr_lt (x r : Nat) (hx : x < 4294967296) : rotr x r < 4294967296 :=
 Nat.or_lt_two_pow (n := 32) (Nat.lt_of_le_of_lt (Nat.div_le_self _ _) hx) (Nat.mod_lt _ (by decide))
theorem xor32_lt (x y : Nat) (hx : x < 4294967296) (hy : y < 4294967296) : x ^^^ y < 4294967296 := Nat.xor_lt_two_pow (n := 32) hx hy
theorem wrap32 (a : Nat) : IntKind.u32.wrap (a : Int) = ((a % 4294967296 : Nat) : Int) := by rw [IntKind.wrap_u32']; omega
theorem or_rotr' (x r : Nat) (hx : x < 4294967296) : bits .or .u32 ((x : Int) * 2 ^ (32 - r) % 4294967296) ((x : Int) / 2 ^ r) = ((rotr x r : Nat) : Int) := by
 have h := u32_or_nat (x * 2 ^ (32 - r) % 4294967296) (x / 2 ^ r) (Nat.mod_lt _ (by decide)) (Nat.lt_of_le_of_lt (Nat.div_le_self _ _) hx)
 unfold rotr
 rw [Nat.or_comm, ← h]
 congr 1 <;> simp
theorem rotl_any (x r : Nat) (k : Int) (w : World) (hx : x < 4294967296) (hr : (r = 16 ∧ k = -16) ∨ (r = 12 ∧ k = -12) ∨ (r = 8 ∧ k = -8) ∨ (r = 7 ∧ k = -7)) :
  Calls Tryz.prog 124 #[.int .u32 x, .int .i64 k] w fun e w' => e = .returned (.int .u32 (rotr x r : Nat)) ∧ w' = w := by
 rcases hr with ⟨rfl, rfl⟩ | ⟨rfl, rfl⟩ | ⟨rfl, rfl⟩ | ⟨rfl, rfl⟩
 ·have hb : bits .and .u64 (IntKind.u64.wrap (-16)) 31 = 16 := by decide +kernel
  have ho := or_rotr' x 16 hx
  simp only [Nat.reduceSub, Int.reducePow] at ho
  go_enter Tryz.func124, Tryz.ntmps124
  go_wp2_with fail
  go_ret
  exact ⟨rfl, rfl⟩
 ·have hb : bits .and .u64 (IntKind.u64.wrap (-12)) 31 = 20 := by decide +kernel
  have ho := or_rotr' x 12 hx
  simp only [Nat.reduceSub, Int.reducePow] at ho
  go_enter Tryz.func124, Tryz.ntmps124
  go_wp2_with fail
  go_ret
  exact ⟨rfl, rfl⟩
 ·have hb : bits .and .u64 (IntKind.u64.wrap (-8)) 31 = 24 := by decide +kernel
  have ho := or_rotr' x 8 hx
  simp only [Nat.reduceSub, Int.reducePow] at ho
  go_enter Tryz.func124, Tryz.ntmps124
  go_wp2_with fail
  go_ret
  exact ⟨rfl, rfl⟩
 have hb : bits .and .u64 (IntKind.u64.wrap (-7)) 31 = 25 := by decide +kernel
 have ho := or_rotr' x 7 hx
 simp only [Nat.reduceSub, Int.reducePow] at ho
 go_enter Tryz.func124, Tryz.ntmps124
 go_wp2_with fail
 go_ret
 exact ⟨rfl, rfl⟩
end Go.Proofs.YtoplbfijodebmaaGreatDoor
