/-
  A region that draws its order: behind a call that writes, what is left only reads.
-/
import Derived.Test.YtimoenlnkafhoaaSameWalk
set_option linter.unusedVariables false
namespace Go.Proofs.Ytimoenlnkafhoaa
open Go.ChangeShapes Go.WideShapes Go.ChangeAt Go.RowKit
open Go.Deep

theorem wpAny_quiet_from {P : Program} {md : Region.Mode} {ops : Array Oper} {Q : Exit → Act → World → Prop} {fuel : Nat} {listed : Array Bool} {a : Act} {w : World} (k : Nat) (hs : Region.noSelect ops = true)
    (hf : fuel = (ops.toList.drop k).length) (hB : Region.lexFrom md ops fuel k listed = true)
    (h : wpQuiet P ops (fun w' => ∃ n, w' = w.drewN n) (fun a' => ∀ w', (∃ n, w' = w.drewN n) → Q .normal a' w') (ops.toList.drop k) a) : wpAny P md ops Q fuel listed a w := by
  subst hf
  refine wpAny_of_quiet (C := fun w' => ∃ n, w' = w.drewN n) (Q := fun a' => ∀ w', (∃ n, w' = w.drewN n) → Q .normal a' w') (fun _ w' hw' h => h w' hw') _ _ _ _ ⟨0, rfl⟩ ?_
  exact wpAnyQ_lex hs _ k listed a (fun j => by simp) hB h

theorem fails00 (x : DS) : x.fails 0 0 = x.copy := rfl
theorem same_copy (x : DS) : sameB x.copy x = true := by simp [sameB, DS.copy]
theorem stepD_room (x : DS) (u : St) : (stepD x u).room = x.room := by
  unfold stepD
  split
  · unfold DS.put; split <;> rfl
  · split
    · unfold DS.flush; split <;> rfl
    · split
      · unfold DS.cut; split <;> rfl
      · split
        · unfold DS.fails; split <;> rfl
        · split <;> rfl
theorem put_room (x : DS) (s : ByteArray) : (x.put s).room = x.room := by unfold DS.put; split <;> rfl

end Go.Proofs.Ytimoenlnkafhoaa
