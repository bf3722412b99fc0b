/-
  A packet's sum, asked for; a flow the other way about.
-/
import Derived.Test.YtgonakpoflacoaaSumP
import Derived.Test.YtgonakpoflacoaaRefSumP
set_option linter.unusedVariables false
set_option linter.unusedSimpArgs false
namespace Go.Proofs.Ytgonakpoflacoaa
open Go.RowKit

def sumQ (p : Pk) : Nat := if mayE p = 0 then sumP p else 0
theorem mayE_ne {p : Pk} (h : ¬ mayE p = 0) : ((mayE p : Int) == 0) = false := beq_eq_false_iff_ne.2 h
set_option maxHeartbeats 8000000 in
theorem sumAsk_any (p : Pk) (w : World) (hok : p.Ok) (hd : p.data.size ≤ 10000) : Calls Try.prog 16 #[p.val] w fun e w' => e = .returned (.int .u16 (sumQ p)) ∧ Below w.heap.size w w' := by
  obtain ⟨⟨v1, h1, l1⟩, ⟨v2, h2, l2⟩, pr, tt, d⟩ := p
  obtain ⟨p, hp⟩ : ∃ p : Pk, p = ⟨⟨v1, h1, l1⟩, ⟨v2, h2, l2⟩, pr, tt, d⟩ := ⟨_, rfl⟩
  have hpv : p.val = .agg #[.bool v1, .int .u64 h1, .int .u64 l1, .bool v2, .int .u64 h2, .int .u64 l2, .int .u8 pr, .int .u8 tt, .string d] := by rw [hp]; rfl
  rw [← hp] at hok hd ⊢
  have HP := Lib.hid (And.intro hok hd)
  have C1 : ∀ u, Calls Try.prog 26 #[.agg #[.bool v1, .int .u64 h1, .int .u64 l1, .bool v2, .int .u64 h2, .int .u64 l2, .int .u8 pr, .int .u8 tt, .string d]] u fun e w' => e = .returned (.int .i64 (mayE p)) ∧ Below u.heap.size u w' := fun u => by rw [← hpv]; exact may_any p u (by omega)
  have C2 : ∀ u, Calls Try.prog 33 #[.agg #[.bool v1, .int .u64 h1, .int .u64 l1, .bool v2, .int .u64 h2, .int .u64 l2, .int .u8 pr, .int .u8 tt, .string d]] u fun e w' => e = .returned (.int .u16 (sumP p)) ∧ Below u.heap.size u w' := fun u => by rw [← hpv]; exact sum_any p u hok hd
  have HC := Lib.hid (And.intro C1 C2)
  rw [hpv]
  clear hok hd hpv C1 C2 hp
  obtain ⟨E, hE⟩ : ∃ E, E = mayE p := ⟨_, rfl⟩
  have HE := Lib.hid hE
  have HB := Lib.hid ((Below.refl w.heap.size w).alloc (Nat.le_refl _) (.cells #[.bool v1, .int .u64 h1, .int .u64 l1, .bool v2, .int .u64 h2, .int .u64 l2, .int .u8 pr, .int .u8 tt, .string d] 30))
  by_cases h0 : E = 0
  · have HQ := Lib.hid (show sumQ p = sumP p by unfold sumQ; rw [if_pos (by rw [← hE]; exact h0)])
    clear hE
    subst h0
    go_enter Try.func16, Try.ntmps16
    go_wp2_with fail
    refine (HC.out.1 _).mono ?_
    rintro e w1 ⟨rfl, B1⟩
    rw [← HE.out]
    have D0 : w1.heap[w.heap.size]? = some (.cells #[.bool v1, .int .u64 h1, .int .u64 l1, .bool v2, .int .u64 h2, .int .u64 l2, .int .u8 pr, .int .u8 tt, .string d] 30) := (B1.block _ (by simp)).trans (heap_alloc_last w _)
    obtain ⟨k0, k1, k2, k3, k4, k5, k6, k7, k8⟩ := pkCells D0
    have H1 := Lib.hid (HB.out.trans (B1.mono HB.out.size))
    clear B1 D0
    simp only []
    go_wp2_with fail
    refine (HC.out.2 _).mono ?_
    rintro e w2 ⟨rfl, B2⟩
    have H2 := Lib.hid (H1.out.trans (B2.mono H1.out.size))
    clear B2 k0 k1 k2 k3 k4 k5 k6 k7 k8
    simp only []
    go_wp2_with fail
    go_ret
    exact ⟨by rw [HQ.out]; rfl, H2.out⟩
  · have HQ := Lib.hid (show sumQ p = 0 by unfold sumQ; rw [if_neg (by rw [← hE]; exact h0)])
    have e1 : ((E : Int) == 0) = false := beq_eq_false_iff_ne.2 h0
    clear hE
    go_enter Try.func16, Try.ntmps16
    go_wp2_with fail
    refine (HC.out.1 _).mono ?_
    rintro e w1 ⟨rfl, B1⟩
    rw [← HE.out]
    have H1 := Lib.hid (HB.out.trans (B1.mono HB.out.size))
    clear B1
    simp only []
    go_wp2_with fail
    go_ret
    exact ⟨by rw [HQ.out]; rfl, H1.out⟩
set_option maxHeartbeats 8000000 in
theorem refSumAsk_any (p : Pk) (w : World) (hok : p.Ok) (hd : p.data.size ≤ 10000) : Calls Try.prog 17 #[p.val] w fun e w' => e = .returned (.int .u16 (sumQ p)) ∧ Below w.heap.size w w' := by
  obtain ⟨⟨v1, h1, l1⟩, ⟨v2, h2, l2⟩, pr, tt, d⟩ := p
  obtain ⟨p, hp⟩ : ∃ p : Pk, p = ⟨⟨v1, h1, l1⟩, ⟨v2, h2, l2⟩, pr, tt, d⟩ := ⟨_, rfl⟩
  have hpv : p.val = .agg #[.bool v1, .int .u64 h1, .int .u64 l1, .bool v2, .int .u64 h2, .int .u64 l2, .int .u8 pr, .int .u8 tt, .string d] := by rw [hp]; rfl
  rw [← hp] at hok hd ⊢
  have HP := Lib.hid (And.intro hok hd)
  have C1 : ∀ u, Calls Try.prog 30 #[.agg #[.bool v1, .int .u64 h1, .int .u64 l1, .bool v2, .int .u64 h2, .int .u64 l2, .int .u8 pr, .int .u8 tt, .string d]] u fun e w' => e = .returned (.int .i64 (mayE p)) ∧ Below u.heap.size u w' := fun u => by rw [← hpv]; exact refMay_any p u (by omega)
  have C2 : ∀ u, Calls Try.prog 32 #[.agg #[.bool v1, .int .u64 h1, .int .u64 l1, .bool v2, .int .u64 h2, .int .u64 l2, .int .u8 pr, .int .u8 tt, .string d]] u fun e w' => e = .returned (.int .u16 (sumP p)) ∧ Below u.heap.size u w' := fun u => by rw [← hpv]; exact refSum_any p u hok hd
  have HC := Lib.hid (And.intro C1 C2)
  rw [hpv]
  clear hok hd hpv C1 C2 hp
  obtain ⟨E, hE⟩ : ∃ E, E = mayE p := ⟨_, rfl⟩
  have HE := Lib.hid hE
  have HB := Lib.hid ((Below.refl w.heap.size w).alloc (Nat.le_refl _) (.cells #[.bool v1, .int .u64 h1, .int .u64 l1, .bool v2, .int .u64 h2, .int .u64 l2, .int .u8 pr, .int .u8 tt, .string d] 30))
  by_cases h0 : E = 0
  · have HQ := Lib.hid (show sumQ p = sumP p by unfold sumQ; rw [if_pos (by rw [← hE]; exact h0)])
    clear hE
    subst h0
    go_enter Try.func17, Try.ntmps17
    go_wp2_with fail
    refine (HC.out.1 _).mono ?_
    rintro e w1 ⟨rfl, B1⟩
    rw [← HE.out]
    have D0 : w1.heap[w.heap.size]? = some (.cells #[.bool v1, .int .u64 h1, .int .u64 l1, .bool v2, .int .u64 h2, .int .u64 l2, .int .u8 pr, .int .u8 tt, .string d] 30) := (B1.block _ (by simp)).trans (heap_alloc_last w _)
    obtain ⟨k0, k1, k2, k3, k4, k5, k6, k7, k8⟩ := pkCells D0
    have H1 := Lib.hid (HB.out.trans (B1.mono HB.out.size))
    clear B1 D0
    simp only []
    go_wp2_with fail
    refine (HC.out.2 _).mono ?_
    rintro e w2 ⟨rfl, B2⟩
    have H2 := Lib.hid (H1.out.trans (B2.mono H1.out.size))
    clear B2 k0 k1 k2 k3 k4 k5 k6 k7 k8
    simp only []
    go_wp2_with fail
    go_ret
    exact ⟨by rw [HQ.out]; rfl, H2.out⟩
  · have HQ := Lib.hid (show sumQ p = 0 by unfold sumQ; rw [if_neg (by rw [← hE]; exact h0)])
    have e1 : ((E : Int) == 0) = false := beq_eq_false_iff_ne.2 h0
    clear hE
    go_enter Try.func17, Try.ntmps17
    go_wp2_with fail
    refine (HC.out.1 _).mono ?_
    rintro e w1 ⟨rfl, B1⟩
    rw [← HE.out]
    have H1 := Lib.hid (HB.out.trans (B1.mono HB.out.size))
    clear B1
    simp only []
    go_wp2_with fail
    go_ret
    exact ⟨by rw [HQ.out]; rfl, H1.out⟩

structure Fl where
  proto : Nat
  src : Ad
  dst : Ad
  fp : Nat
  tp : Nat
def Fl.cells (f : Fl) : Array Value := #[.int .u8 f.proto, .bool f.src.v6, .int .u64 f.src.hi, .int .u64 f.src.lo, .bool f.dst.v6, .int .u64 f.dst.hi, .int .u64 f.dst.lo, .int .u16 f.fp, .int .u16 f.tp]
def Fl.val (f : Fl) : Value := .agg f.cells
def Fl.rev (f : Fl) : Fl := ⟨f.proto, f.dst, f.src, f.tp, f.fp⟩
set_option maxHeartbeats 8000000 in
theorem reverse_any (f : Fl) (w : World) : Calls Try.prog 18 #[f.val] w fun e w' => e = .returned f.rev.val ∧ Below w.heap.size w w' := by
  obtain ⟨pr, ⟨v1, h1, l1⟩, ⟨v2, h2, l2⟩, fr, tp⟩ := f
  show Calls Try.prog 18 #[.agg #[.int .u8 pr, .bool v1, .int .u64 h1, .int .u64 l1, .bool v2, .int .u64 h2, .int .u64 l2, .int .u16 fr, .int .u16 tp]] w _
  go_enter Try.func18, Try.ntmps18
  go_wp2_with fail
  refine bodyPost_ret (v := .agg #[.int .u8 pr, .bool v2, .int .u64 h2, .int .u64 l2, .bool v1, .int .u64 h1, .int .u64 l1, .int .u16 tp, .int .u16 fr]) (by simp [results, Try.results18, go_sem]) rfl ⟨rfl, ?_⟩
  exact ((Below.refl _ _).alloc (Nat.le_refl _) _).alloc (by simp) _
set_option maxHeartbeats 8000000 in
theorem refReverse_any (f : Fl) (w : World) : Calls Try.prog 19 #[f.val] w fun e w' => e = .returned f.rev.val ∧ Below w.heap.size w w' := by
  obtain ⟨pr, ⟨v1, h1, l1⟩, ⟨v2, h2, l2⟩, fr, tp⟩ := f
  show Calls Try.prog 19 #[.agg #[.int .u8 pr, .bool v1, .int .u64 h1, .int .u64 l1, .bool v2, .int .u64 h2, .int .u64 l2, .int .u16 fr, .int .u16 tp]] w _
  go_enter Try.func19, Try.ntmps19
  go_wp2_with fail
  refine bodyPost_ret (v := .agg #[.int .u8 pr, .bool v2, .int .u64 h2, .int .u64 l2, .bool v1, .int .u64 h1, .int .u64 l1, .int .u16 tp, .int .u16 fr]) (by simp [results, Try.results19, go_sem]) rfl ⟨rfl, ?_⟩
  exact ((Below.refl _ _).alloc (Nat.le_refl _) _).alloc (by simp) _

end Go.Proofs.Ytgonakpoflacoaa
