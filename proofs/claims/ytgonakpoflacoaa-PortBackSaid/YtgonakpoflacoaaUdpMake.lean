/-
  Packets of UDP made by the code.
-/
import Derived.Test.YtgonakpoflacoaaMade
import Derived.Test.YtgonakpoflacoaaDraw
set_option linter.unusedVariables false
set_option linter.unusedSimpArgs false
namespace Go.Proofs.Ytgonakpoflacoaa
open Go.RowKit

def udpD (f tp : Nat) (d : ByteArray) : ByteArray := beS f 2 ++ beS tp 2 ++ beS (8 + d.size) 2 ++ beS 0 2 ++ d
theorem udpD_size (f tp : Nat) (d : ByteArray) : (udpD f tp d).size = 8 + d.size := by
  unfold udpD
  simp only [ByteArray.size_append, beS_size]
set_option maxHeartbeats 16000000 in
set_option maxRecDepth 100000 in
theorem udpMake_any (a b : Ad) (f tp : Nat) (d : ByteArray) (w : World) (ha : a.Ok) (hb : b.Ok) (hf : f < 65536) (ht : tp < 65536) (hd : d.size ≤ 9000) :
    Calls Try.prog 8 #[.agg #[.bool a.v6, .int .u64 a.hi, .int .u64 a.lo, .int .u16 f], .agg #[.bool b.v6, .int .u64 b.hi, .int .u64 b.lo, .int .u16 tp], .string d] w fun e w' =>
      e = .returned (.tuple #[(madeP ⟨a, b, 17, 64, udpD f tp d⟩ 6).val, .int .i64 (mayE ⟨a, b, 17, 64, udpD f tp d⟩)]) ∧ Below w.heap.size w w' := by
  obtain ⟨v1, h1, l1⟩ := a
  obtain ⟨v2, h2, l2⟩ := b
  obtain ⟨D, hD⟩ : ∃ D, D = udpD f tp d := ⟨_, rfl⟩
  have hDs : D.size = 8 + d.size := by rw [hD]; exact udpD_size _ _ _
  rw [← hD]
  have C3 : ∀ u, Calls Try.prog 21 #[.agg #[.bool v1, .int .u64 h1, .int .u64 l1], .agg #[.bool v2, .int .u64 h2, .int .u64 l2], .int .u8 17, .int .i64 6, .string D] u fun e w' => e = .returned (.tuple #[(madeP ⟨⟨v1, h1, l1⟩, ⟨v2, h2, l2⟩, 17, 64, D⟩ 6).val, .int .i64 (mayE ⟨⟨v1, h1, l1⟩, ⟨v2, h2, l2⟩, 17, 64, D⟩)]) ∧ Below u.heap.size u w' := fun u => made_any ⟨v1, h1, l1⟩ ⟨v2, h2, l2⟩ 17 6 D u ha hb (by decide) (by omega) (by omega)
  have HC := Lib.hid C3
  obtain ⟨M, hM⟩ : ∃ M : Pk, M = madeP ⟨⟨v1, h1, l1⟩, ⟨v2, h2, l2⟩, 17, 64, D⟩ 6 := ⟨_, rfl⟩
  obtain ⟨E, hE⟩ : ∃ M, M = mayE ⟨⟨v1, h1, l1⟩, ⟨v2, h2, l2⟩, 17, 64, D⟩ := ⟨_, rfl⟩
  rw [← hM, ← hE] at HC
  rw [← hM, ← hE]
  clear C3 hM hE ha hb
  obtain ⟨X1, hX1⟩ : ∃ X, X = beS f 2 := ⟨_, rfl⟩
  obtain ⟨X2, hX2⟩ : ∃ X, X = beS tp 2 := ⟨_, rfl⟩
  obtain ⟨X3, hX3⟩ : ∃ X, X = beS (8 + d.size) 2 := ⟨_, rfl⟩
  obtain ⟨X4, hX4⟩ : ∃ X, X = beS 0 2 := ⟨_, rfl⟩
  have z1 : X1.size = 2 := by rw [hX1]; exact beS_size _ _
  have z2 : X2.size = 2 := by rw [hX2]; exact beS_size _ _
  have z3 : X3.size = 2 := by rw [hX3]; exact beS_size _ _
  have z4 : X4.size = 2 := by rw [hX4]; exact beS_size _ _
  have a1 := addS X1 X2 (by omega)
  have a2 := addS (X1 ++ X2) X3 (by rw [ByteArray.size_append]; omega)
  have a3 := addS (X1 ++ X2 ++ X3) X4 (by simp only [ByteArray.size_append]; omega)
  have a4 := addS (X1 ++ X2 ++ X3 ++ X4) d (by simp only [ByteArray.size_append]; omega)
  have hDX : X1 ++ X2 ++ X3 ++ X4 ++ d = D := by rw [hD, hX1, hX2, hX3, hX4]; rfl
  rw [hDX] at a4
  obtain ⟨Z, hZ⟩ : ∃ Z, Z = 8 + d.size := ⟨_, rfl⟩
  have e1 : 8 + (d.size : Int) = Z := by omega
  have e2 : IntKind.i64.wrap (Z : Int) = Z := IntWalk.i64_in _ (by omega)
  have e3 : IntKind.u16.wrap (Z : Int) = Z := by rw [IntKind.wrap_u16]; omega
  rw [← hZ] at hX3
  have HX := Lib.hid (And.intro hX1 (And.intro hX2 (And.intro hX3 (And.intro hX4 (And.intro hf (And.intro ht (show Z < 65536 by omega)))))))
  have hz : (d.size : Int) ≤ 9000 := by omega
  clear hX1 hX2 hX3 hX4 z1 z2 z3 z4 hDX hD hDs hZ hd hf ht
  have HW0 : HL [(w.heap.size + 1, .cells #[.bool v2, .int .u64 h2, .int .u64 l2, .int .u16 tp] 27), (w.heap.size, .cells #[.bool v1, .int .u64 h1, .int .u64 l1, .int .u16 f] 27)] (w.heap.size + 1 + 1) 9 w (((w.alloc (.cells #[.bool v1, .int .u64 h1, .int .u64 l1, .int .u16 f] 27)).alloc (.cells #[.bool v2, .int .u64 h2, .int .u64 l2, .int .u16 tp] 27)).alloc (.cells #[.bool false, .int .u64 0, .int .u64 0, .bool false, .int .u64 0, .int .u64 0, .int .u8 0, .int .u8 0, .string ⟨#[]⟩] 30)) := HL.two rfl rfl rfl
  have HW := Lib.hid HW0
  clear HW0
  go_enter Try.func8, Try.ntmps8
  go_wp2_with fail
  obtain ⟨w0, hw0⟩ : ∃ x, x = ((w.alloc (.cells #[.bool v1, .int .u64 h1, .int .u64 l1, .int .u16 f] 27)).alloc (.cells #[.bool v2, .int .u64 h2, .int .u64 l2, .int .u16 tp] 27)).alloc (.cells #[.bool false, .int .u64 0, .int .u64 0, .bool false, .int .u64 0, .int .u64 0, .int .u8 0, .int .u8 0, .string ⟨#[]⟩] 30) := ⟨_, rfl⟩
  obtain ⟨R, hR⟩ : ∃ x, x = w.heap.size + 1 + 1 := ⟨_, rfl⟩
  obtain ⟨B, hB⟩ : ∃ x, x = w.heap.size + 1 := ⟨_, rfl⟩
  obtain ⟨A, hA⟩ : ∃ x, x = w.heap.size := ⟨_, rfl⟩
  have HN := Lib.hid (show A ≠ R ∧ B ≠ R ∧ w.heap.size ≤ R by omega)
  have HW : Hid (HL [(B, .cells #[.bool v2, .int .u64 h2, .int .u64 l2, .int .u16 tp] 27), (A, .cells #[.bool v1, .int .u64 h1, .int .u64 l1, .int .u16 f] 27)] R 9 w w0) := by rw [hw0, hR, hB, hA]; exact Lib.hid HW.out
  rw [← hw0, ← hR, ← hB]
  rw [← hA]
  clear hw0 hR hB hA
  refine wp_region_held_drew (S := fun u => HL [(B, .cells #[.bool v2, .int .u64 h2, .int .u64 l2, .int .u16 tp] 27), (A, .cells #[.bool v1, .int .u64 h1, .int .u64 l1, .int .u16 f] 27)] R 9 w u) (by kernel_rfl) HW.out.drew (fun hHeld => ?_)
  refine wpAnyH_take (i := 0) (v := ?_) rfl (by kernel_rfl) (by kernel_rfl) (by kernel_rfl) (fun _ _ _ h => h) (Or.inl ⟨by rfl, ?_⟩) (by assumption) ?_
  rotate_left 1
  · (intro u hSw; clear hSw; go_simp; try (with_reducible rfl))
  try simp only [Act.put, List.getElem_toArray, List.getElem_cons_zero, List.getElem_cons_succ, List.setIfInBounds_toArray, List.set_cons_zero, List.set_cons_succ]
  refine wpAnyH_take (i := 1) (v := ?_) rfl (by kernel_rfl) (by kernel_rfl) (by kernel_rfl) (fun _ _ _ h => h) (Or.inl ⟨by rfl, ?_⟩) (by assumption) ?_
  rotate_left 1
  · (intro u hSw; have hSv := hSw; clear hSw; obtain ⟨c0, c1, c2, c3⟩ := epCells hSv.tail.head; clear hSv; go_simp; try (with_reducible rfl))
  try simp only [Act.put, List.getElem_toArray, List.getElem_cons_zero, List.getElem_cons_succ, List.setIfInBounds_toArray, List.set_cons_zero, List.set_cons_succ]
  refine wpAnyH_take (i := 2) (v := ?_) rfl (by kernel_rfl) (by kernel_rfl) (by kernel_rfl) (fun _ _ _ h => h) (Or.inl ⟨by rfl, ?_⟩) (by assumption) ?_
  rotate_left 1
  · (intro u hSw; clear hSw; go_simp; try (with_reducible rfl))
  try simp only [Act.put, List.getElem_toArray, List.getElem_cons_zero, List.getElem_cons_succ, List.setIfInBounds_toArray, List.set_cons_zero, List.set_cons_succ]
  refine wpAnyH_take (i := 3) (v := ?_) rfl (by kernel_rfl) (by kernel_rfl) (by kernel_rfl) (fun _ _ _ h => h) (Or.inl ⟨by rfl, ?_⟩) (by assumption) ?_
  rotate_left 1
  · (intro u hSw; have hSv := hSw; clear hSw; obtain ⟨c0, c1, c2, c3⟩ := epCells hSv.head; clear hSv; go_simp; try (with_reducible rfl))
  try simp only [Act.put, List.getElem_toArray, List.getElem_cons_zero, List.getElem_cons_succ, List.setIfInBounds_toArray, List.set_cons_zero, List.set_cons_succ]
  refine wpAnyH_take (i := 4) (v := ?_) rfl (by kernel_rfl) (by kernel_rfl) (by kernel_rfl) (fun _ _ _ h => h) (Or.inl ⟨by rfl, ?_⟩) (by assumption) ?_
  rotate_left 1
  · (intro u hSw; clear hSw; go_simp; try (with_reducible rfl))
  try simp only [Act.put, List.getElem_toArray, List.getElem_cons_zero, List.getElem_cons_succ, List.setIfInBounds_toArray, List.set_cons_zero, List.set_cons_succ]
  refine wpAnyH_take (i := 5) (v := ?_) rfl (by kernel_rfl) (by kernel_rfl) (by kernel_rfl) (fun _ _ _ h => h) (Or.inl ⟨by rfl, ?_⟩) (by assumption) ?_
  rotate_left 1
  · (intro u hSw; have hSv := hSw; clear hSw; obtain ⟨c0, c1, c2, c3⟩ := epCells hSv.tail.head; clear hSv; go_simp; try (with_reducible rfl))
  try simp only [Act.put, List.getElem_toArray, List.getElem_cons_zero, List.getElem_cons_succ, List.setIfInBounds_toArray, List.set_cons_zero, List.set_cons_succ]
  refine wpAnyH_take (i := 7) (v := ?_) rfl (by kernel_rfl) (by kernel_rfl) (by kernel_rfl) (fun _ _ _ h => h) (Or.inl ⟨by rfl, ?_⟩) (by assumption) ?_
  rotate_left 1
  · (intro u hSw; clear hSw; go_simp; try (with_reducible rfl))
  try simp only [Act.put, List.getElem_toArray, List.getElem_cons_zero, List.getElem_cons_succ, List.setIfInBounds_toArray, List.set_cons_zero, List.set_cons_succ]
  refine wpAnyH_take (i := 8) (v := ?_) rfl (by kernel_rfl) (by kernel_rfl) (by kernel_rfl) (fun _ _ _ h => h) (Or.inl ⟨by rfl, ?_⟩) (by assumption) ?_
  rotate_left 1
  · (intro u hSw; have hSv := hSw; clear hSw; obtain ⟨c0, c1, c2, c3⟩ := epCells hSv.head; clear hSv; go_simp; try (with_reducible rfl))
  try simp only [Act.put, List.getElem_toArray, List.getElem_cons_zero, List.getElem_cons_succ, List.setIfInBounds_toArray, List.set_cons_zero, List.set_cons_succ]
  refine wpAnyH_take (i := 11) (v := ?_) rfl (by kernel_rfl) (by kernel_rfl) (by kernel_rfl) (fun _ _ _ h => h) (Or.inl ⟨by rfl, ?_⟩) (by assumption) ?_
  rotate_left 1
  · (intro u hSw; clear hSw; go_simp; try (with_reducible rfl))
  try simp only [Act.put, List.getElem_toArray, List.getElem_cons_zero, List.getElem_cons_succ, List.setIfInBounds_toArray, List.set_cons_zero, List.set_cons_succ]
  refine wpAnyH_take (i := 12) (v := ?_) rfl (by kernel_rfl) (by kernel_rfl) (by kernel_rfl) (fun _ _ _ h => h) (Or.inl ⟨by rfl, ?_⟩) (by assumption) ?_
  rotate_left 1
  · (intro u hSw; clear hSw; go_simp; try (with_reducible rfl))
  try simp only [Act.put, List.getElem_toArray, List.getElem_cons_zero, List.getElem_cons_succ, List.setIfInBounds_toArray, List.set_cons_zero, List.set_cons_succ]
  refine wpAnyH_take (i := 13) (v := ?_) rfl (by kernel_rfl) (by kernel_rfl) (by kernel_rfl) (fun _ _ _ h => h) (Or.inl ⟨by rfl, ?_⟩) (by assumption) ?_
  rotate_left 1
  · (intro u hSw; clear hSw; go_simp; try (with_reducible rfl))
  try simp only [Act.put, List.getElem_toArray, List.getElem_cons_zero, List.getElem_cons_succ, List.setIfInBounds_toArray, List.set_cons_zero, List.set_cons_succ]
  refine wpAnyH_take (i := 14) (v := ?_) rfl (by kernel_rfl) (by kernel_rfl) (by kernel_rfl) (fun _ _ _ h => h) (Or.inl ⟨by rfl, ?_⟩) (by assumption) ?_
  rotate_left 1
  · (intro u hSw; clear hSw; go_simp; try (with_reducible rfl))
  try simp only [Act.put, List.getElem_toArray, List.getElem_cons_zero, List.getElem_cons_succ, List.setIfInBounds_toArray, List.set_cons_zero, List.set_cons_succ]
  refine wpAnyH_take (i := 19) (v := ?_) rfl (by kernel_rfl) (by kernel_rfl) (by kernel_rfl) (fun _ _ _ h => h) (Or.inl ⟨by rfl, ?_⟩) (by assumption) ?_
  rotate_left 1
  · (intro u hSw; clear hSw; go_simp; try (with_reducible rfl))
  try simp only [Act.put, List.getElem_toArray, List.getElem_cons_zero, List.getElem_cons_succ, List.setIfInBounds_toArray, List.set_cons_zero, List.set_cons_succ]
  refine wpAnyH_ready (rs := [6]) (by kernel_rfl) (by simp) ?_
  refine AllReadyH.cons rfl (fun K hK => ?_) AllReadyH.nil
  have HS := Lib.hid hHeld
  clear hHeld
  go_simp
  refine (put16 f _ HX.out.2.2.2.2.1).mono ?_
  rintro e w1 ⟨rfl, B1⟩
  rw [← HX.out.1]
  simp only []
  refine hK.out _ _ (HS.out.call B1) (fun hHeld => ?_)
  clear hK K HS B1
  try simp only [Act.put, List.getElem_toArray, List.getElem_cons_zero, List.getElem_cons_succ, List.setIfInBounds_toArray, List.set_cons_zero, List.set_cons_succ]
  refine wpAnyH_ready (rs := [9]) (by kernel_rfl) (by simp) ?_
  refine AllReadyH.cons rfl (fun K hK => ?_) AllReadyH.nil
  have HS := Lib.hid hHeld
  clear hHeld
  go_simp
  refine (put16 tp _ HX.out.2.2.2.2.2.1).mono ?_
  rintro e w1 ⟨rfl, B1⟩
  rw [← HX.out.2.1]
  simp only []
  refine hK.out _ _ (HS.out.call B1) (fun hHeld => ?_)
  clear hK K HS B1
  try simp only [Act.put, List.getElem_toArray, List.getElem_cons_zero, List.getElem_cons_succ, List.setIfInBounds_toArray, List.set_cons_zero, List.set_cons_succ]
  refine wpAnyH_take (i := 10) (v := ?_) rfl (by kernel_rfl) (by kernel_rfl) (by kernel_rfl) (fun _ _ _ h => h) (Or.inl ⟨by rfl, ?_⟩) (by assumption) ?_
  rotate_left 1
  · (intro u hSw; clear hSw; go_simp; try (with_reducible rfl))
  try simp only [Act.put, List.getElem_toArray, List.getElem_cons_zero, List.getElem_cons_succ, List.setIfInBounds_toArray, List.set_cons_zero, List.set_cons_succ]
  refine wpAnyH_ready (rs := [15]) (by kernel_rfl) (by simp) ?_
  refine AllReadyH.cons rfl (fun K hK => ?_) AllReadyH.nil
  have HS := Lib.hid hHeld
  clear hHeld
  go_simp
  refine (put16 Z _ HX.out.2.2.2.2.2.2).mono ?_
  rintro e w1 ⟨rfl, B1⟩
  rw [← HX.out.2.2.1]
  simp only []
  refine hK.out _ _ (HS.out.call B1) (fun hHeld => ?_)
  clear hK K HS B1
  try simp only [Act.put, List.getElem_toArray, List.getElem_cons_zero, List.getElem_cons_succ, List.setIfInBounds_toArray, List.set_cons_zero, List.set_cons_succ]
  refine wpAnyH_take (i := 16) (v := ?_) rfl (by kernel_rfl) (by kernel_rfl) (by kernel_rfl) (fun _ _ _ h => h) (Or.inl ⟨by rfl, ?_⟩) (by assumption) ?_
  rotate_left 1
  · (intro u hSw; clear hSw; go_simp; try (with_reducible rfl))
  try simp only [Act.put, List.getElem_toArray, List.getElem_cons_zero, List.getElem_cons_succ, List.setIfInBounds_toArray, List.set_cons_zero, List.set_cons_succ]
  refine wpAnyH_ready (rs := [17]) (by kernel_rfl) (by simp) ?_
  refine AllReadyH.cons rfl (fun K hK => ?_) AllReadyH.nil
  have HS := Lib.hid hHeld
  clear hHeld
  go_simp
  refine (put16 0 _ (by decide)).mono ?_
  rintro e w1 ⟨rfl, B1⟩
  rw [← HX.out.2.2.2.1]
  simp only []
  refine hK.out _ _ (HS.out.call B1) (fun hHeld => ?_)
  clear hK K HS B1
  try simp only [Act.put, List.getElem_toArray, List.getElem_cons_zero, List.getElem_cons_succ, List.setIfInBounds_toArray, List.set_cons_zero, List.set_cons_succ]
  refine wpAnyH_take (i := 18) (v := ?_) rfl (by kernel_rfl) (by kernel_rfl) (by kernel_rfl) (fun _ _ _ h => h) (Or.inl ⟨by rfl, ?_⟩) (by assumption) ?_
  rotate_left 1
  · (intro u hSw; clear hSw; go_simp; try (with_reducible rfl))
  try simp only [Act.put, List.getElem_toArray, List.getElem_cons_zero, List.getElem_cons_succ, List.setIfInBounds_toArray, List.set_cons_zero, List.set_cons_succ]
  refine wpAnyH_take (i := 20) (v := ?_) rfl (by kernel_rfl) (by kernel_rfl) (by kernel_rfl) (fun _ _ _ h => h) (Or.inl ⟨by rfl, ?_⟩) (by assumption) ?_
  rotate_left 1
  · (intro u hSw; clear hSw; go_simp; try (with_reducible rfl))
  try simp only [Act.put, List.getElem_toArray, List.getElem_cons_zero, List.getElem_cons_succ, List.setIfInBounds_toArray, List.set_cons_zero, List.set_cons_succ]
  refine wpAnyH_ready (rs := [21]) (by kernel_rfl) (by simp) ?_
  refine AllReadyH.cons rfl (fun K hK => ?_) AllReadyH.nil
  have HS := Lib.hid hHeld
  clear hHeld
  go_simp
  refine (HC.out _).mono ?_
  rintro e w1 ⟨rfl, B1⟩
  simp only []
  refine hK.out _ _ (HS.out.call B1) (fun hHeld => ?_)
  clear hK K HS B1
  try simp only [Act.put, List.getElem_toArray, List.getElem_cons_zero, List.getElem_cons_succ, List.setIfInBounds_toArray, List.set_cons_zero, List.set_cons_succ]
  refine wpAnyH_take (i := 22) (v := ?_) rfl (by kernel_rfl) (by kernel_rfl) (by kernel_rfl) (fun _ _ _ h => h) (Or.inl ⟨by rfl, ?_⟩) (by assumption) ?_
  rotate_left 1
  · (intro u hSw; clear hSw; go_simp; try (with_reducible rfl))
  try simp only [Act.put, List.getElem_toArray, List.getElem_cons_zero, List.getElem_cons_succ, List.setIfInBounds_toArray, List.set_cons_zero, List.set_cons_succ]
  refine wpAnyH_take (i := 23) (v := ?_) rfl (by kernel_rfl) (by kernel_rfl) (by kernel_rfl) (fun _ _ _ h => h) (Or.inl ⟨by rfl, ?_⟩) (by assumption) ?_
  rotate_left 1
  · (intro u hSw; clear hSw; go_simp; try (with_reducible rfl))
  try simp only [Act.put, List.getElem_toArray, List.getElem_cons_zero, List.getElem_cons_succ, List.setIfInBounds_toArray, List.set_cons_zero, List.set_cons_succ]
  refine wpAnyH_ready (rs := [24]) (by kernel_rfl) (by simp) ?_
  refine AllReadyH.cons rfl (fun K hK => ?_) AllReadyH.nil
  have HS := Lib.hid hHeld
  clear hHeld
  rw [if_pos (by kernel_rfl)]
  obtain ⟨cs, hcs, hR⟩ := HS.out.2.1
  refine wp_store_row 30 _ _ rfl R M.cells rfl rfl 30 cs hR info30 hcs (pkOne M) ?_
  have HR := Lib.hid (HS.out.row (cs := M.cells))
  refine hK.out _ _ (HS.out.store (by simp only [List.mem_cons, List.not_mem_nil, or_false]; rintro x (rfl | rfl); exact HN.out.2.1; exact HN.out.1) HN.out.2.2 rfl) (fun hHeld => ?_)
  clear hcs hR
  clear hK K HS
  try simp only [Act.put, List.getElem_toArray, List.getElem_cons_zero, List.getElem_cons_succ, List.setIfInBounds_toArray, List.set_cons_zero, List.set_cons_succ]
  refine wpAnyH_take (i := 25) (v := ?_) rfl (by kernel_rfl) (by kernel_rfl) (by kernel_rfl) (fun _ _ _ h => h) (Or.inl ⟨by rfl, ?_⟩) (by assumption) ?_
  rotate_left 1
  · (intro u hSw; clear hSw; go_simp; try (with_reducible rfl))
  try simp only [Act.put, List.getElem_toArray, List.getElem_cons_zero, List.getElem_cons_succ, List.setIfInBounds_toArray, List.set_cons_zero, List.set_cons_succ]
  have HE := Lib.hid hHeld
  clear hHeld
  refine wpAnyH_done (by kernel_rfl) ?_ _
  try simp only [Act.put, List.getElem_toArray, List.getElem_cons_zero, List.getElem_cons_succ, List.setIfInBounds_toArray, List.set_cons_zero, List.set_cons_succ]
  obtain ⟨w5, hw5⟩ : ∃ x, x = World.setRow w1 R M.cells := ⟨_, rfl⟩
  rw [← hw5] at HR HE ⊢
  have D5 : w5.heap[R]? = some (.cells #[.bool M.src.v6, .int .u64 M.src.hi, .int .u64 M.src.lo, .bool M.dst.v6, .int .u64 M.dst.hi, .int .u64 M.dst.lo, .int .u8 M.proto, .int .u8 M.ttl, .string M.data] 30) := HR.out
  obtain ⟨k0, k1, k2, k3, k4, k5, k6, k7, k8⟩ := pkCells D5
  clear D5 HR hw5
  go_wp2_with fail
  refine bodyPost_ret (v := .tuple #[.agg #[.bool M.src.v6, .int .u64 M.src.hi, .int .u64 M.src.lo, .bool M.dst.v6, .int .u64 M.dst.hi, .int .u64 M.dst.lo, .int .u8 M.proto, .int .u8 M.ttl, .string M.data], .int .i64 E]) (by simp [results, Try.results8, go_sem, k0, k1, k2, k3, k4, k5, k6, k7, k8]) rfl ⟨rfl, HE.out.2.2⟩

end Go.Proofs.Ytgonakpoflacoaa
