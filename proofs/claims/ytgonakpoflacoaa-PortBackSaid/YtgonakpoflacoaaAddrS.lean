/-
  A packet's sum: the code's and the document's.
-/
import Derived.Test.YtgonakpoflacoaaSums
import Derived.Deep.RegionHeld3
import Derived.Deep.CutRange
import Derived.Laws.Concat
set_option linter.unusedVariables false
set_option linter.unusedSimpArgs false
namespace Go.Proofs.Ytgonakpoflacoaa
open Go.RowKit

def adS (a : Ad) : ByteArray := if a.v6 then beS a.hi 8 ++ beS a.lo 8 else beS a.lo 4
def pseudo (p : Pk) : Bool := decide (p.proto = 6) || decide (p.proto = 17) || decide (p.proto = 58)
def aheadS (p : Pk) : ByteArray := if pseudo p then adS p.src ++ adS p.dst ++ ⟨#[0, UInt8.ofNat p.proto]⟩ ++ beS p.data.size 2 else .empty
def sumP (p : Pk) : Nat := sumV (aheadS p ++ p.data)
theorem adS_size (a : Ad) : (adS a).size ≤ 16 := by
  unfold adS
  split
  · rw [ByteArray.size_append, beS_size, beS_size]; decide
  · rw [beS_size]; decide
theorem addS (a b : ByteArray) (h : a.size + b.size ≤ 9223372036854775807) : ∀ u, (Op.stringOp .add a b).run Try.prog u = .ok (.string (a ++ b)) u := fun u => run_string_add_sum u _ _ h
theorem beS_low (x : Nat) : beS (x % 4294967296) 4 = beS x 4 := by
  unfold beS beL
  congr 2
  apply List.map_congr_left
  intro j hj
  have hj4 : j < 4 := List.mem_range.1 hj
  have h : j = 0 ∨ j = 1 ∨ j = 2 ∨ j = 3 := by omega
  apply UInt8.toNat_inj.1
  rcases h with rfl | rfl | rfl | rfl <;> simp <;> omega
set_option maxHeartbeats 4000000 in
theorem addr_any (a : Ad) (w : World) (ha : a.Ok) : Calls Try.prog 47 #[a.val] w fun e w' => e = .returned (.string (adS a)) ∧ Below w.heap.size w w' := by
  obtain ⟨v6, hi, lo⟩ := a
  have HB := Lib.hid ((Below.refl w.heap.size w).alloc (Nat.le_refl _) (.cells #[.bool v6, .int .u64 hi, .int .u64 lo] 24))
  have HO := Lib.hid (show hi < 18446744073709551616 ∧ lo < 18446744073709551616 from ha)
  show Calls Try.prog 47 #[.agg #[.bool v6, .int .u64 hi, .int .u64 lo]] w _
  clear ha
  cases v6
  · go_enter Try.func47, Try.ntmps47
    go_wp2_with fail
    refine ((show Calls Try.prog 53 #[.int .u32 ((lo % 4294967296 : Nat) : Int)] _ _ from put32 (lo % 4294967296) _ (Nat.mod_lt _ (by decide)))).mono ?_
    rw [beS_low]
    rintro e w1 ⟨rfl, B1⟩
    have H1 := Lib.hid (HB.out.trans (B1.mono HB.out.size))
    clear B1
    simp only []
    go_wp2_with fail
    go_ret
    exact ⟨by unfold adS; rfl, H1.out⟩
  · have D1 : (w.alloc (.cells #[.bool true, .int .u64 hi, .int .u64 lo] 24)).drew.cell? ⟨w.heap.size, 1, none⟩ = some (.int .u64 (hi : Int)) := by show World.cell? (w.alloc _) _ = _; unfold World.cell?; rw [heap_alloc_last]; rfl
    have D2 : (w.alloc (.cells #[.bool true, .int .u64 hi, .int .u64 lo] 24)).drew.cell? ⟨w.heap.size, 2, none⟩ = some (.int .u64 (lo : Int)) := by show World.cell? (w.alloc _) _ = _; unfold World.cell?; rw [heap_alloc_last]; rfl
    have a1 := addS (beS hi 8) (beS lo 8) (by rw [beS_size, beS_size]; decide)
    have HD := Lib.hid (And.intro D1 D2)
    clear D1 D2
    go_enter Try.func47, Try.ntmps47
    go_wp2_with fail
    obtain ⟨D1, D2⟩ := HD.out
    refine wp_region_held_drew (S := fun u => u.cell? ⟨w.heap.size, 1, none⟩ = some (.int .u64 (hi : Int)) ∧ u.cell? ⟨w.heap.size, 2, none⟩ = some (.int .u64 (lo : Int)) ∧ w.heap.size < u.heap.size ∧ Below w.heap.size w u) (by kernel_rfl) ⟨D1, D2, by simp, HB.out.drew⟩ (fun hHeld => ?_)
    clear D1 D2
    refine wpAnyH_take (i := 0) (v := ?_) rfl (by kernel_rfl) (by kernel_rfl) (by kernel_rfl) (fun _ _ _ h => h) (Or.inl ⟨by rfl, ?_⟩) (by assumption) ?_
    rotate_left 1
    · (intro u hSw; clear hSw; go_simp; try (with_reducible rfl))
    try simp only [Act.put, List.setIfInBounds_toArray, List.set_cons_zero, List.set_cons_succ]
    refine wpAnyH_take (i := 1) (v := ?_) rfl (by kernel_rfl) (by kernel_rfl) (by kernel_rfl) (fun _ _ _ h => h) (Or.inl ⟨by rfl, ?_⟩) (by assumption) ?_
    rotate_left 1
    · (intro u hSw; obtain ⟨k1, k2, _, _⟩ := hSw; go_simp; try (with_reducible rfl))
    try simp only [Act.put, List.setIfInBounds_toArray, List.set_cons_zero, List.set_cons_succ]
    refine wpAnyH_take (i := 3) (v := ?_) rfl (by kernel_rfl) (by kernel_rfl) (by kernel_rfl) (fun _ _ _ h => h) (Or.inl ⟨by rfl, ?_⟩) (by assumption) ?_
    rotate_left 1
    · (intro u hSw; clear hSw; go_simp; try (with_reducible rfl))
    try simp only [Act.put, List.setIfInBounds_toArray, List.set_cons_zero, List.set_cons_succ]
    refine wpAnyH_take (i := 4) (v := ?_) rfl (by kernel_rfl) (by kernel_rfl) (by kernel_rfl) (fun _ _ _ h => h) (Or.inl ⟨by rfl, ?_⟩) (by assumption) ?_
    rotate_left 1
    · (intro u hSw; obtain ⟨k1, k2, _, _⟩ := hSw; go_simp; try (with_reducible rfl))
    try simp only [Act.put, List.setIfInBounds_toArray, List.set_cons_zero, List.set_cons_succ]
    refine wpAnyH_ready (rs := [2]) (by kernel_rfl) (by simp) ?_
    refine AllReadyH.cons rfl (fun K hK => ?_) AllReadyH.nil
    have HS := Lib.hid hHeld
    clear hHeld
    go_simp
    refine (put64 hi _ HO.out.1).mono ?_
    rintro e w1 ⟨rfl, B1⟩
    simp only []
    refine hK.out _ _ ⟨(B1.cell (p := ⟨_, _, none⟩) HS.out.2.2.1).trans HS.out.1, (B1.cell (p := ⟨_, _, none⟩) HS.out.2.2.1).trans HS.out.2.1, Nat.lt_of_lt_of_le HS.out.2.2.1 B1.size, HS.out.2.2.2.trans (B1.mono HS.out.2.2.2.size)⟩ (fun hHeld => ?_)
    clear hK K HS B1
    try simp only [Act.put, List.setIfInBounds_toArray, List.set_cons_zero, List.set_cons_succ]
    refine wpAnyH_ready (rs := [5]) (by kernel_rfl) (by simp) ?_
    refine AllReadyH.cons rfl (fun K hK => ?_) AllReadyH.nil
    have HS := Lib.hid hHeld
    clear hHeld
    go_simp
    refine (put64 lo _ HO.out.2).mono ?_
    rintro e w1 ⟨rfl, B1⟩
    simp only []
    refine hK.out _ _ ⟨(B1.cell (p := ⟨_, _, none⟩) HS.out.2.2.1).trans HS.out.1, (B1.cell (p := ⟨_, _, none⟩) HS.out.2.2.1).trans HS.out.2.1, Nat.lt_of_lt_of_le HS.out.2.2.1 B1.size, HS.out.2.2.2.trans (B1.mono HS.out.2.2.2.size)⟩ (fun hHeld => ?_)
    clear hK K HS B1
    try simp only [Act.put, List.setIfInBounds_toArray, List.set_cons_zero, List.set_cons_succ]
    refine wpAnyH_take (i := 6) (v := ?_) rfl (by kernel_rfl) (by kernel_rfl) (by kernel_rfl) (fun _ _ _ h => h) (Or.inl ⟨by rfl, ?_⟩) (by assumption) ?_
    rotate_left 1
    · (intro u hSw; clear hSw; go_simp; try (with_reducible rfl))
    try simp only [Act.put, List.setIfInBounds_toArray, List.set_cons_zero, List.set_cons_succ]
    refine wpAnyH_ready (rs := [7]) (by kernel_rfl) (by simp) ?_
    refine AllReadyH.cons rfl (fun K hK => ?_) AllReadyH.nil
    have HS := Lib.hid hHeld
    clear hHeld
    go_simp
    refine hK.out _ _ HS.out (fun hHeld => ?_)
    clear hK K HS
    try simp only [Act.put, List.setIfInBounds_toArray, List.set_cons_zero, List.set_cons_succ]
    have HE := Lib.hid hHeld
    clear hHeld
    refine wpAnyH_done (by kernel_rfl) ?_ _
    try simp only [Act.put, List.setIfInBounds_toArray, List.set_cons_zero, List.set_cons_succ]

    go_wp2_with fail
    go_ret
    exact ⟨by unfold adS; rfl, HE.out.2.2.2⟩
set_option maxHeartbeats 4000000 in
theorem refBytes_any (a : Ad) (w : World) (ha : a.Ok) : Calls Try.prog 45 #[a.val] w fun e w' => e = .returned (.string (adS a)) ∧ Below w.heap.size w w' := by
  obtain ⟨v6, hi, lo⟩ := a
  have HB := Lib.hid ((Below.refl w.heap.size w).alloc (Nat.le_refl _) (.cells #[.bool v6, .int .u64 hi, .int .u64 lo] 24))
  have HO := Lib.hid (show hi < 18446744073709551616 ∧ lo < 18446744073709551616 from ha)
  show Calls Try.prog 45 #[.agg #[.bool v6, .int .u64 hi, .int .u64 lo]] w _
  clear ha
  cases v6
  · go_enter Try.func45, Try.ntmps45
    go_wp2_with fail
    refine (num_any lo 4 _ HO.out.2 (by decide) (by decide)).mono ?_
    rintro e w1 ⟨rfl, B1⟩
    have H1 := Lib.hid (HB.out.trans (B1.mono HB.out.size))
    clear B1
    simp only []
    go_wp2_with fail
    go_ret
    exact ⟨by unfold adS; rfl, H1.out⟩
  · have D1 : (w.alloc (.cells #[.bool true, .int .u64 hi, .int .u64 lo] 24)).drew.cell? ⟨w.heap.size, 1, none⟩ = some (.int .u64 (hi : Int)) := by show World.cell? (w.alloc _) _ = _; unfold World.cell?; rw [heap_alloc_last]; rfl
    have D2 : (w.alloc (.cells #[.bool true, .int .u64 hi, .int .u64 lo] 24)).drew.cell? ⟨w.heap.size, 2, none⟩ = some (.int .u64 (lo : Int)) := by show World.cell? (w.alloc _) _ = _; unfold World.cell?; rw [heap_alloc_last]; rfl
    have a1 := addS (beS hi 8) (beS lo 8) (by rw [beS_size, beS_size]; decide)
    have HD := Lib.hid (And.intro D1 D2)
    clear D1 D2
    go_enter Try.func45, Try.ntmps45
    go_wp2_with fail
    obtain ⟨D1, D2⟩ := HD.out
    refine wp_region_held_drew (S := fun u => u.cell? ⟨w.heap.size, 1, none⟩ = some (.int .u64 (hi : Int)) ∧ u.cell? ⟨w.heap.size, 2, none⟩ = some (.int .u64 (lo : Int)) ∧ w.heap.size < u.heap.size ∧ Below w.heap.size w u) (by kernel_rfl) ⟨D1, D2, by simp, HB.out.drew⟩ (fun hHeld => ?_)
    clear D1 D2
    refine wpAnyH_take (i := 0) (v := ?_) rfl (by kernel_rfl) (by kernel_rfl) (by kernel_rfl) (fun _ _ _ h => h) (Or.inl ⟨by rfl, ?_⟩) (by assumption) ?_
    rotate_left 1
    · (intro u hSw; clear hSw; go_simp; try (with_reducible rfl))
    try simp only [Act.put, List.setIfInBounds_toArray, List.set_cons_zero, List.set_cons_succ]
    refine wpAnyH_take (i := 1) (v := ?_) rfl (by kernel_rfl) (by kernel_rfl) (by kernel_rfl) (fun _ _ _ h => h) (Or.inl ⟨by rfl, ?_⟩) (by assumption) ?_
    rotate_left 1
    · (intro u hSw; obtain ⟨k1, k2, _, _⟩ := hSw; go_simp; try (with_reducible rfl))
    try simp only [Act.put, List.setIfInBounds_toArray, List.set_cons_zero, List.set_cons_succ]
    refine wpAnyH_take (i := 3) (v := ?_) rfl (by kernel_rfl) (by kernel_rfl) (by kernel_rfl) (fun _ _ _ h => h) (Or.inl ⟨by rfl, ?_⟩) (by assumption) ?_
    rotate_left 1
    · (intro u hSw; clear hSw; go_simp; try (with_reducible rfl))
    try simp only [Act.put, List.setIfInBounds_toArray, List.set_cons_zero, List.set_cons_succ]
    refine wpAnyH_take (i := 4) (v := ?_) rfl (by kernel_rfl) (by kernel_rfl) (by kernel_rfl) (fun _ _ _ h => h) (Or.inl ⟨by rfl, ?_⟩) (by assumption) ?_
    rotate_left 1
    · (intro u hSw; obtain ⟨k1, k2, _, _⟩ := hSw; go_simp; try (with_reducible rfl))
    try simp only [Act.put, List.setIfInBounds_toArray, List.set_cons_zero, List.set_cons_succ]
    refine wpAnyH_ready (rs := [2]) (by kernel_rfl) (by simp) ?_
    refine AllReadyH.cons rfl (fun K hK => ?_) AllReadyH.nil
    have HS := Lib.hid hHeld
    clear hHeld
    go_simp
    refine (num_any hi 8 _ HO.out.1 (by decide) (by decide)).mono ?_
    rintro e w1 ⟨rfl, B1⟩
    simp only []
    refine hK.out _ _ ⟨(B1.cell (p := ⟨_, _, none⟩) HS.out.2.2.1).trans HS.out.1, (B1.cell (p := ⟨_, _, none⟩) HS.out.2.2.1).trans HS.out.2.1, Nat.lt_of_lt_of_le HS.out.2.2.1 B1.size, HS.out.2.2.2.trans (B1.mono HS.out.2.2.2.size)⟩ (fun hHeld => ?_)
    clear hK K HS B1
    try simp only [Act.put, List.setIfInBounds_toArray, List.set_cons_zero, List.set_cons_succ]
    refine wpAnyH_ready (rs := [5]) (by kernel_rfl) (by simp) ?_
    refine AllReadyH.cons rfl (fun K hK => ?_) AllReadyH.nil
    have HS := Lib.hid hHeld
    clear hHeld
    go_simp
    refine (num_any lo 8 _ HO.out.2 (by decide) (by decide)).mono ?_
    rintro e w1 ⟨rfl, B1⟩
    simp only []
    refine hK.out _ _ ⟨(B1.cell (p := ⟨_, _, none⟩) HS.out.2.2.1).trans HS.out.1, (B1.cell (p := ⟨_, _, none⟩) HS.out.2.2.1).trans HS.out.2.1, Nat.lt_of_lt_of_le HS.out.2.2.1 B1.size, HS.out.2.2.2.trans (B1.mono HS.out.2.2.2.size)⟩ (fun hHeld => ?_)
    clear hK K HS B1
    try simp only [Act.put, List.setIfInBounds_toArray, List.set_cons_zero, List.set_cons_succ]
    refine wpAnyH_take (i := 6) (v := ?_) rfl (by kernel_rfl) (by kernel_rfl) (by kernel_rfl) (fun _ _ _ h => h) (Or.inl ⟨by rfl, ?_⟩) (by assumption) ?_
    rotate_left 1
    · (intro u hSw; clear hSw; go_simp; try (with_reducible rfl))
    try simp only [Act.put, List.setIfInBounds_toArray, List.set_cons_zero, List.set_cons_succ]
    refine wpAnyH_ready (rs := [7]) (by kernel_rfl) (by simp) ?_
    refine AllReadyH.cons rfl (fun K hK => ?_) AllReadyH.nil
    have HS := Lib.hid hHeld
    clear hHeld
    go_simp
    refine hK.out _ _ HS.out (fun hHeld => ?_)
    clear hK K HS
    try simp only [Act.put, List.setIfInBounds_toArray, List.set_cons_zero, List.set_cons_succ]
    have HE := Lib.hid hHeld
    clear hHeld
    refine wpAnyH_done (by kernel_rfl) ?_ _
    try simp only [Act.put, List.setIfInBounds_toArray, List.set_cons_zero, List.set_cons_succ]

    go_wp2_with fail
    go_ret
    exact ⟨by unfold adS; rfl, HE.out.2.2.2⟩

end Go.Proofs.Ytgonakpoflacoaa
