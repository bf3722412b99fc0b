/-
  Long numbers: above; a root.
-/
import Derived.Test.YtfminodongcelaaDoorLong
set_option linter.unusedVariables false
namespace Go.Proofs.YtfminodongcelaaDoor
open Go.RowKit

theorem downI (m : Nat) (h : m ≤ 16) (h1 : ¬ m = 0) : ∃ j : Nat, m = j + 1 ∧ ((m : Int) - 1 = j) ∧ (0 : Int) ≤ j ∧ (j : Int) < 16 ∧ j < 16 := ⟨m - 1, by omega⟩
theorem above_same {a b : List Nat} {j : Nat} (h : at_ a j = at_ b j) : aboveN a b (j + 1) = aboveN a b j := by simp [aboveN, h]
theorem above_diff {a b : List Nat} {j : Nat} (h : ¬ at_ a j = at_ b j) : aboveN a b (j + 1) = decide (at_ b j < at_ a j) := by simp [aboveN, h]
theorem natI_ne {A C : Nat} (h : ¬ A = C) : ¬ (A : Int) = C := by omega
theorem natI_beq {A C : Nat} (h : ¬ A = C) : ((A : Int) == C) = false := beq_eq_false_iff_ne.2 (by omega)
theorem natI_lt {A C : Nat} (h : C < A) : (C : Int) < A := by omega
theorem natI_nlt {A C : Nat} (h : ¬ C < A) : ¬ (C : Int) < A := by omega
theorem downM (j : Nat) : (intOf (.int .i64 ((j : Int) - 1)) + 1).toNat < (intOf (.int .i64 (j : Int)) + 1).toNat := by simp [intOf]

set_option maxHeartbeats 8000000 in
theorem above_any (a b : List Nat) (w : World) (la : a.length = 16) (ha : ∀ i, at_ a i < M64) (lb : b.length = 16) (hb : ∀ i, at_ b i < M64) :
    Calls Tryd.prog 40 #[.agg (ls a), .agg (ls b)] w fun e w' => e = .returned (.bool (aboveN a b 16)) ∧ Below w.heap.size w w' := by
  have RA := (lw_new w a la ha).alloc (.cells (ls b) 78)
  have RB := lw_new (w.alloc (.cells (ls a) 78)) b lb hb
  have B0 := ((Below.refl w.heap.size w).alloc (Nat.le_refl _) (.cells (ls a) 78)).alloc (by simp) (.cells (ls b) 78)
  rw [show (w.alloc (.cells (ls a) 78)).heap.size = w.heap.size + 1 by simp] at RB
  clear la ha lb hb
  go_enter Tryd.func40, Tryd.ntmps40
  go_wp2_with fail
  obtain ⟨w0, hw0⟩ : ∃ uu, uu = (w.alloc (.cells (ls a) 78)).alloc (.cells (ls b) 78) := ⟨_, rfl⟩
  rw [← hw0] at RA RB B0
  rw [← hw0]
  obtain ⟨A0, B0', q1, q2⟩ : ∃ A B : Nat, A = w.heap.size ∧ B = w.heap.size + 1 := ⟨_, _, rfl, rfl⟩
  rw [← q1] at RA
  rw [← q2] at RB
  rw [← q2, ← q1]
  have H0 := Lib.hid (And.intro RA (And.intro RB B0))
  clear RA RB B0 q1 q2 hw0
  go_loopw [5] (fun i wr => ∃ m : Nat, m ≤ 16 ∧ i = .int .i64 ((m : Int) - 1) ∧ aboveN a b 16 = aboveN a b m ∧ (Lw wr A0 a ∧ Lw wr B0' b ∧ Below w.heap.size w wr)) (fun i _ => (intOf i + 1).toNat)
  case atStart => exact ⟨16, Nat.le_refl _, rfl, rfl, H0.out⟩
  case round =>
    obtain ⟨m, hm, rfl, hab, HH⟩ := hrel
    have HR := Lib.hid (And.intro hab HH)
    clear hab HH
    by_cases hm0 : m = 0
    · have hx : aboveN a b 16 = false := by rw [HR.out.1, hm0]; rfl
      subst hm0
      have HX := Lib.hid hx
      clear hx
      go_wp2_with fail
      go_ret
      exact ⟨by rw [HX.out]; rfl, HR.out.2.2.2⟩
    · obtain ⟨j, hj, e1, l1, l2, l3⟩ := downI m hm hm0
      have cA := HR.out.2.1.cell j l3
      have cB := HR.out.2.2.1.cell j l3
      have cA2 := HR.out.2.1.drew.cell j l3
      have cB2 := HR.out.2.2.1.drew.cell j l3
      obtain ⟨A, hA⟩ : ∃ A, A = at_ a j := ⟨_, rfl⟩
      obtain ⟨C, hC⟩ : ∃ A, A = at_ b j := ⟨_, rfl⟩
      rw [← hA] at cA cA2
      rw [← hC] at cB cB2
      by_cases hac : A = C
      · have hs : aboveN a b 16 = aboveN a b j := by rw [HR.out.1, hj]; exact above_same (by rw [← hA, ← hC]; exact hac)
        have HS := Lib.hid hs
        rw [← hac] at cB
        clear cA2 cB2
        have HL := Lib.hid (Nat.le_of_lt l3)
        rw [e1]
        clear hs hac hA hC hj hm hm0 e1 l3
        go_wp2_with fail
        go_still (by kernel_rfl)
        go_wp2_with fail
        go_roundw
        case rel => exact ⟨j, HL.out, rfl, HS.out, HR.out.2.1.drew, HR.out.2.2.1.drew, HR.out.2.2.2.drew⟩
        case measure => exact downM j
      · have hs : aboveN a b 16 = decide (C < A) := by rw [HR.out.1, hj, above_diff (by rw [← hA, ← hC]; exact hac), ← hA, ← hC]
        have n1 := natI_ne hac
        have n2 := natI_beq hac
        by_cases hlt : C < A
        · have n3 := natI_lt hlt
          have HS := Lib.hid (show aboveN a b 16 = true by rw [hs]; exact decide_eq_true hlt)
          rw [e1]
          clear hs hac hA hC hj hm hm0 e1 l3 hlt
          go_wp2_with fail
          go_still (by kernel_rfl)
          go_wp2_with fail
          obtain ⟨w2, hw2⟩ : ∃ uu, uu = wr.drew := ⟨_, rfl⟩
          rw [← hw2] at cA2 cB2
          change Code.wp _ _ _ _ wr.drew
          rw [← hw2]
          have HW2 := Lib.hid hw2
          clear cA cB hw2
          go_still (by kernel_rfl)
          go_wp2_with fail
          go_ret
          exact ⟨by rw [HS.out]; rfl, by have h := HR.out.2.2.2.drew.drew; rw [← HW2.out] at h; exact h⟩
        · have n3 := natI_nlt hlt
          have HS := Lib.hid (show aboveN a b 16 = false by rw [hs]; exact decide_eq_false hlt)
          have HLT := Lib.hid hlt
          rw [e1]
          clear hs hac hA hC hj hm hm0 e1 l3 hlt
          go_wp2_with fail
          go_still (by kernel_rfl)
          go_wp2_with fail
          obtain ⟨w2, hw2⟩ : ∃ uu, uu = wr.drew := ⟨_, rfl⟩
          rw [← hw2] at cA2 cB2
          change Code.wp _ _ _ _ wr.drew
          rw [← hw2]
          have HW2 := Lib.hid hw2
          clear cA cB hw2
          go_still (by kernel_rfl)
          go_wp2_with fail
          go_ret
          exact ⟨by rw [HS.out, ← decide_eq_false HLT.out]; rfl, by have h := HR.out.2.2.2.drew.drew; rw [← HW2.out] at h; exact h⟩

end Go.Proofs.YtfminodongcelaaDoor
