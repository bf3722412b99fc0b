/-
  Packets made by the document: UDP and TCP.
-/
import Derived.Test.YtgonakpoflacoaaRefMade
import Derived.Test.YtgonakpoflacoaaTcpMake
set_option linter.unusedVariables false
set_option linter.unusedSimpArgs false
namespace Go.Proofs.Ytgonakpoflacoaa
open Go.RowKit

theorem u64N (n : Nat) (h : n < 65536) : IntKind.u64.wrap (n : Int) = n := by rw [IntKind.wrap_u64]; omega
theorem zero2 : beS 0 2 = ⟨#[0, 0]⟩ := by decide +kernel
theorem zero8 : beS 0 8 = ⟨#[0, 0, 0, 0, 0, 0, 0, 0]⟩ := by decide +kernel
theorem tcp_parts (fl : Nat) (x : ByteArray) : x ++ ⟨#[80]⟩ ++ ⟨#[UInt8.ofNat fl]⟩ ++ ⟨#[255, 255, 0, 0, 0, 0]⟩ = x ++ tcpT fl := by
  apply ByteArray.ext
  simp only [ByteArray.data_append]
  rw [Array.append_assoc, Array.append_assoc]
  rfl
theorem eight_conv {u : World} {g : Nat} (h : u.heap[g]? = some (.cells #[.int .u8 0, .int .u8 0, .int .u8 0, .int .u8 0, .int .u8 0, .int .u8 0, .int .u8 0, .int .u8 0] 5)) : (convert 37 9 (.slice (some ⟨g, 0, none⟩) 8 8)).run Try.prog u = .ok (.string ⟨#[0, 0, 0, 0, 0, 0, 0, 0]⟩) u := by
  refine bytes_conv [0, 0, 0, 0, 0, 0, 0, 0] rfl ?_
  rw [h]
  simp
set_option maxHeartbeats 16000000 in
set_option maxRecDepth 100000 in
theorem refUdp_any (a b : Ad) (f tp : Nat) (d : ByteArray) (w : World) (ha : a.Ok) (hb : b.Ok) (hf : f < 65536) (ht : tp < 65536) (hd : d.size ≤ 9000) :
    Calls Try.prog 9 #[.agg #[.bool a.v6, .int .u64 a.hi, .int .u64 a.lo, .int .u16 f], .agg #[.bool b.v6, .int .u64 b.hi, .int .u64 b.lo, .int .u16 tp], .string d] w fun e w' =>
      e = .returned (.tuple #[(madeP ⟨a, b, 17, 64, udpD f tp d⟩ 6).val, .int .i64 (mayE ⟨a, b, 17, 64, udpD f tp d⟩)]) ∧ Below w.heap.size w w' := by
  obtain ⟨v1, h1, l1⟩ := a
  obtain ⟨v2, h2, l2⟩ := b
  obtain ⟨D, hD⟩ : ∃ D, D = udpD f tp d := ⟨_, rfl⟩
  have hDs : D.size = 8 + d.size := by rw [hD]; exact udpD_size _ _ _
  rw [← hD]
  have C3 : ∀ u, Calls Try.prog 24 #[.agg #[.bool v1, .int .u64 h1, .int .u64 l1, .bool v2, .int .u64 h2, .int .u64 l2, .int .u8 17, .int .u8 64, .string D], .int .i64 6] u fun e w' => e = .returned (.tuple #[(madeP ⟨⟨v1, h1, l1⟩, ⟨v2, h2, l2⟩, 17, 64, D⟩ 6).val, .int .i64 (mayE ⟨⟨v1, h1, l1⟩, ⟨v2, h2, l2⟩, 17, 64, D⟩)]) ∧ Below u.heap.size u w' := fun u => refMade_any ⟨⟨v1, h1, l1⟩, ⟨v2, h2, l2⟩, 17, 64, D⟩ 6 u ⟨ha, hb, (by decide : 17 < 256), (by decide : 64 < 256)⟩ (show 6 + 2 ≤ D.size by omega) (show D.size ≤ 10000 by omega)
  have HC := Lib.hid C3
  obtain ⟨M, hM⟩ : ∃ M : Pk, M = madeP ⟨⟨v1, h1, l1⟩, ⟨v2, h2, l2⟩, 17, 64, D⟩ 6 := ⟨_, rfl⟩
  obtain ⟨E, hE⟩ : ∃ M, M = mayE ⟨⟨v1, h1, l1⟩, ⟨v2, h2, l2⟩, 17, 64, D⟩ := ⟨_, rfl⟩
  rw [← hM, ← hE] at HC
  rw [← hM, ← hE]
  clear C3 hM hE ha hb
  obtain ⟨X1, hX1⟩ : ∃ X, X = beS f 2 := ⟨_, rfl⟩
  obtain ⟨X2, hX2⟩ : ∃ X, X = beS tp 2 := ⟨_, rfl⟩
  have z1 : X1.size = 2 := by rw [hX1]; exact beS_size _ _
  have z2 : X2.size = 2 := by rw [hX2]; exact beS_size _ _
  have a1 := addS X1 X2 (by omega)
  have q1 := u64N f hf
  have q2 := u64N tp ht
  obtain ⟨X3, hX3⟩ : ∃ X, X = beS (8 + d.size) 2 := ⟨_, rfl⟩
  have z3 : X3.size = 2 := by rw [hX3]; exact beS_size _ _
  have a2 := addS (X1 ++ X2) X3 (by rw [ByteArray.size_append]; omega)
  have a3 := addS (X1 ++ X2 ++ X3) ⟨#[0, 0]⟩ (by simp only [ByteArray.size_append]; show X1.size + X2.size + X3.size + 2 ≤ _; omega)
  have a4 := addS (X1 ++ X2 ++ X3 ++ ⟨#[0, 0]⟩) d (by simp only [ByteArray.size_append]; show X1.size + X2.size + X3.size + 2 + d.size ≤ _; omega)
  have hDX : X1 ++ X2 ++ X3 ++ ⟨#[0, 0]⟩ ++ d = D := by rw [hD, hX1, hX2, hX3, ← zero2]; rfl
  rw [hDX] at a4
  obtain ⟨Z, hZ⟩ : ∃ Z, Z = 8 + d.size := ⟨_, rfl⟩
  have e1 : 8 + (d.size : Int) = Z := by omega
  have e2 : IntKind.i64.wrap (Z : Int) = Z := IntWalk.i64_in _ (by omega)
  have e3 : IntKind.u64.wrap (Z : Int) = Z := by rw [IntKind.wrap_u64]; omega
  rw [← hZ] at hX3
  have HX := Lib.hid (And.intro hX1 (And.intro hX2 (And.intro hX3 (And.intro (show f < 18446744073709551616 by omega) (And.intro (show tp < 18446744073709551616 by omega) (show Z < 18446744073709551616 by omega))))))
  have hz : (d.size : Int) ≤ 9000 := by omega
  clear hX1 hX2 hX3 z1 z2 z3 hDX hD hDs hZ hd hf ht
  have HW0 : HL [(w.heap.size + 1, .cells #[.bool v2, .int .u64 h2, .int .u64 l2, .int .u16 tp] 27), (w.heap.size, .cells #[.bool v1, .int .u64 h1, .int .u64 l1, .int .u16 f] 27)] (w.heap.size + 1 + 1) 9 w (((w.alloc (.cells #[.bool v1, .int .u64 h1, .int .u64 l1, .int .u16 f] 27)).alloc (.cells #[.bool v2, .int .u64 h2, .int .u64 l2, .int .u16 tp] 27)).alloc (.cells #[.bool false, .int .u64 0, .int .u64 0, .bool false, .int .u64 0, .int .u64 0, .int .u8 0, .int .u8 0, .string ⟨#[]⟩] 30)) := HL.two rfl rfl rfl
  have HW := Lib.hid HW0
  clear HW0
  go_enter Try.func9, Try.ntmps9
  go_wp2_with fail
  obtain ⟨w0, hw0⟩ : ∃ x, x = ((w.alloc (.cells #[.bool v1, .int .u64 h1, .int .u64 l1, .int .u16 f] 27)).alloc (.cells #[.bool v2, .int .u64 h2, .int .u64 l2, .int .u16 tp] 27)).alloc (.cells #[.bool false, .int .u64 0, .int .u64 0, .bool false, .int .u64 0, .int .u64 0, .int .u8 0, .int .u8 0, .string ⟨#[]⟩] 30) := ⟨_, rfl⟩
  obtain ⟨R, hR⟩ : ∃ x, x = w.heap.size + 1 + 1 := ⟨_, rfl⟩
  obtain ⟨B, hB⟩ : ∃ x, x = w.heap.size + 1 := ⟨_, rfl⟩
  obtain ⟨A, hA⟩ : ∃ x, x = w.heap.size := ⟨_, rfl⟩
  have HN := Lib.hid (show A ≠ R ∧ B ≠ R ∧ w.heap.size ≤ R by omega)
  have HW : Hid (HL [(B, .cells #[.bool v2, .int .u64 h2, .int .u64 l2, .int .u16 tp] 27), (A, .cells #[.bool v1, .int .u64 h1, .int .u64 l1, .int .u16 f] 27)] R 9 w w0) := by rw [hw0, hR, hB, hA]; exact Lib.hid HW.out
  rw [← hw0, ← hR, ← hB]
  rw [← hA]
  clear hw0 hR hB hA
  refine wp_region_held_drew (S := fun u => HL [(B, .cells #[.bool v2, .int .u64 h2, .int .u64 l2, .int .u16 tp] 27), (A, .cells #[.bool v1, .int .u64 h1, .int .u64 l1, .int .u16 f] 27)] R 9 w u) (by kernel_rfl) HW.out.drew (fun hHeld => ?_)
  refine wpAnyH_take (i := 0) (v := ?_) rfl (by kernel_rfl) (by kernel_rfl) (by kernel_rfl) (fun _ _ _ h => h) (Or.inl ⟨by rfl, ?_⟩) (by assumption) ?_
  rotate_left 1
  · (intro u hSw; clear hSw; go_simp; try (with_reducible rfl))
  try simp only [Act.put, List.getElem_toArray, List.getElem_cons_zero, List.getElem_cons_succ, List.setIfInBounds_toArray, List.set_cons_zero, List.set_cons_succ]
  refine wpAnyH_take (i := 1) (v := ?_) rfl (by kernel_rfl) (by kernel_rfl) (by kernel_rfl) (fun _ _ _ h => h) (Or.inl ⟨by rfl, ?_⟩) (by assumption) ?_
  rotate_left 1
  · (intro u hSw; have hSv := hSw; clear hSw; obtain ⟨c0, c1, c2, c3⟩ := epCells hSv.tail.head; clear hSv; go_simp; try (with_reducible rfl))
  try simp only [Act.put, List.getElem_toArray, List.getElem_cons_zero, List.getElem_cons_succ, List.setIfInBounds_toArray, List.set_cons_zero, List.set_cons_succ]
  refine wpAnyH_take (i := 2) (v := ?_) rfl (by kernel_rfl) (by kernel_rfl) (by kernel_rfl) (fun _ _ _ h => h) (Or.inl ⟨by rfl, ?_⟩) (by assumption) ?_
  rotate_left 1
  · (intro u hSw; clear hSw; go_simp; try (with_reducible rfl))
  try simp only [Act.put, List.getElem_toArray, List.getElem_cons_zero, List.getElem_cons_succ, List.setIfInBounds_toArray, List.set_cons_zero, List.set_cons_succ]
  refine wpAnyH_take (i := 4) (v := ?_) rfl (by kernel_rfl) (by kernel_rfl) (by kernel_rfl) (fun _ _ _ h => h) (Or.inl ⟨by rfl, ?_⟩) (by assumption) ?_
  rotate_left 1
  · (intro u hSw; clear hSw; go_simp; try (with_reducible rfl))
  try simp only [Act.put, List.getElem_toArray, List.getElem_cons_zero, List.getElem_cons_succ, List.setIfInBounds_toArray, List.set_cons_zero, List.set_cons_succ]
  refine wpAnyH_take (i := 5) (v := ?_) rfl (by kernel_rfl) (by kernel_rfl) (by kernel_rfl) (fun _ _ _ h => h) (Or.inl ⟨by rfl, ?_⟩) (by assumption) ?_
  rotate_left 1
  · (intro u hSw; have hSv := hSw; clear hSw; obtain ⟨c0, c1, c2, c3⟩ := epCells hSv.head; clear hSv; go_simp; try (with_reducible rfl))
  try simp only [Act.put, List.getElem_toArray, List.getElem_cons_zero, List.getElem_cons_succ, List.setIfInBounds_toArray, List.set_cons_zero, List.set_cons_succ]
  refine wpAnyH_take (i := 6) (v := ?_) rfl (by kernel_rfl) (by kernel_rfl) (by kernel_rfl) (fun _ _ _ h => h) (Or.inl ⟨by rfl, ?_⟩) (by assumption) ?_
  rotate_left 1
  · (intro u hSw; clear hSw; go_simp; try (with_reducible rfl))
  try simp only [Act.put, List.getElem_toArray, List.getElem_cons_zero, List.getElem_cons_succ, List.setIfInBounds_toArray, List.set_cons_zero, List.set_cons_succ]
  refine wpAnyH_take (i := 9) (v := ?_) rfl (by kernel_rfl) (by kernel_rfl) (by kernel_rfl) (fun _ _ _ h => h) (Or.inl ⟨by rfl, ?_⟩) (by assumption) ?_
  rotate_left 1
  · (intro u hSw; clear hSw; go_simp; try (with_reducible rfl))
  try simp only [Act.put, List.getElem_toArray, List.getElem_cons_zero, List.getElem_cons_succ, List.setIfInBounds_toArray, List.set_cons_zero, List.set_cons_succ]
  refine wpAnyH_take (i := 10) (v := ?_) rfl (by kernel_rfl) (by kernel_rfl) (by kernel_rfl) (fun _ _ _ h => h) (Or.inl ⟨by rfl, ?_⟩) (by assumption) ?_
  rotate_left 1
  · (intro u hSw; clear hSw; go_simp; try (with_reducible rfl))
  try simp only [Act.put, List.getElem_toArray, List.getElem_cons_zero, List.getElem_cons_succ, List.setIfInBounds_toArray, List.set_cons_zero, List.set_cons_succ]
  refine wpAnyH_take (i := 11) (v := ?_) rfl (by kernel_rfl) (by kernel_rfl) (by kernel_rfl) (fun _ _ _ h => h) (Or.inl ⟨by rfl, ?_⟩) (by assumption) ?_
  rotate_left 1
  · (intro u hSw; clear hSw; go_simp; try (with_reducible rfl))
  try simp only [Act.put, List.getElem_toArray, List.getElem_cons_zero, List.getElem_cons_succ, List.setIfInBounds_toArray, List.set_cons_zero, List.set_cons_succ]
  refine wpAnyH_take (i := 12) (v := ?_) rfl (by kernel_rfl) (by kernel_rfl) (by kernel_rfl) (fun _ _ _ h => h) (Or.inl ⟨by rfl, ?_⟩) (by assumption) ?_
  rotate_left 1
  · (intro u hSw; clear hSw; go_simp; try (with_reducible rfl))
  try simp only [Act.put, List.getElem_toArray, List.getElem_cons_zero, List.getElem_cons_succ, List.setIfInBounds_toArray, List.set_cons_zero, List.set_cons_succ]
  refine wpAnyH_take (i := 16) (v := ?_) rfl (by kernel_rfl) (by kernel_rfl) (by kernel_rfl) (fun _ _ _ h => h) (Or.inl ⟨by rfl, ?_⟩) (by assumption) ?_
  rotate_left 1
  · (intro u hSw; clear hSw; go_simp; try (with_reducible rfl))
  try simp only [Act.put, List.getElem_toArray, List.getElem_cons_zero, List.getElem_cons_succ, List.setIfInBounds_toArray, List.set_cons_zero, List.set_cons_succ]
  refine wpAnyH_ready (rs := [3]) (by kernel_rfl) (by simp) ?_
  refine AllReadyH.cons rfl (fun K hK => ?_) AllReadyH.nil
  have HS := Lib.hid hHeld
  clear hHeld
  go_simp
  refine (num_any f 2 _ HX.out.2.2.2.1 (by decide) (by decide)).mono ?_
  rintro e w1 ⟨rfl, B1⟩
  rw [← HX.out.1]
  simp only []
  refine hK.out _ _ (HS.out.call B1) (fun hHeld => ?_)
  clear hK K HS B1
  try simp only [Act.put, List.getElem_toArray, List.getElem_cons_zero, List.getElem_cons_succ, List.setIfInBounds_toArray, List.set_cons_zero, List.set_cons_succ]
  refine wpAnyH_ready (rs := [7]) (by kernel_rfl) (by simp) ?_
  refine AllReadyH.cons rfl (fun K hK => ?_) AllReadyH.nil
  have HS := Lib.hid hHeld
  clear hHeld
  go_simp
  refine (num_any tp 2 _ HX.out.2.2.2.2.1 (by decide) (by decide)).mono ?_
  rintro e w1 ⟨rfl, B1⟩
  rw [← HX.out.2.1]
  simp only []
  refine hK.out _ _ (HS.out.call B1) (fun hHeld => ?_)
  clear hK K HS B1
  try simp only [Act.put, List.getElem_toArray, List.getElem_cons_zero, List.getElem_cons_succ, List.setIfInBounds_toArray, List.set_cons_zero, List.set_cons_succ]
  refine wpAnyH_take (i := 8) (v := ?_) rfl (by kernel_rfl) (by kernel_rfl) (by kernel_rfl) (fun _ _ _ h => h) (Or.inl ⟨by rfl, ?_⟩) (by assumption) ?_
  rotate_left 1
  · (intro u hSw; clear hSw; go_simp; try (with_reducible rfl))
  try simp only [Act.put, List.getElem_toArray, List.getElem_cons_zero, List.getElem_cons_succ, List.setIfInBounds_toArray, List.set_cons_zero, List.set_cons_succ]
  refine wpAnyH_ready (rs := [13]) (by kernel_rfl) (by simp) ?_
  refine AllReadyH.cons rfl (fun K hK => ?_) AllReadyH.nil
  have HS := Lib.hid hHeld
  clear hHeld
  go_simp
  refine (num_any Z 2 _ HX.out.2.2.2.2.2 (by decide) (by decide)).mono ?_
  rintro e w1 ⟨rfl, B1⟩
  rw [← HX.out.2.2.1]
  simp only []
  refine hK.out _ _ (HS.out.call B1) (fun hHeld => ?_)
  clear hK K HS B1
  try simp only [Act.put, List.getElem_toArray, List.getElem_cons_zero, List.getElem_cons_succ, List.setIfInBounds_toArray, List.set_cons_zero, List.set_cons_succ]
  refine wpAnyH_take (i := 14) (v := ?_) rfl (by kernel_rfl) (by kernel_rfl) (by kernel_rfl) (fun _ _ _ h => h) (Or.inl ⟨by rfl, ?_⟩) (by assumption) ?_
  rotate_left 1
  · (intro u hSw; clear hSw; go_simp; try (with_reducible rfl))
  try simp only [Act.put, List.getElem_toArray, List.getElem_cons_zero, List.getElem_cons_succ, List.setIfInBounds_toArray, List.set_cons_zero, List.set_cons_succ]
  refine wpAnyH_take (i := 15) (v := ?_) rfl (by kernel_rfl) (by kernel_rfl) (by kernel_rfl) (fun _ _ _ h => h) (Or.inl ⟨by rfl, ?_⟩) (by assumption) ?_
  rotate_left 1
  · (intro u hSw; clear hSw; go_simp; try (with_reducible rfl))
  try simp only [Act.put, List.getElem_toArray, List.getElem_cons_zero, List.getElem_cons_succ, List.setIfInBounds_toArray, List.set_cons_zero, List.set_cons_succ]
  refine wpAnyH_take (i := 17) (v := ?_) rfl (by kernel_rfl) (by kernel_rfl) (by kernel_rfl) (fun _ _ _ h => h) (Or.inl ⟨by rfl, ?_⟩) (by assumption) ?_
  rotate_left 1
  · (intro u hSw; clear hSw; go_simp; try (with_reducible rfl))
  try simp only [Act.put, List.getElem_toArray, List.getElem_cons_zero, List.getElem_cons_succ, List.setIfInBounds_toArray, List.set_cons_zero, List.set_cons_succ]
  refine wpAnyH_take (i := 18) (v := ?_) rfl (by kernel_rfl) (by kernel_rfl) (by kernel_rfl) (fun _ _ _ h => h) (Or.inl ⟨by rfl, ?_⟩) (by assumption) ?_
  rotate_left 1
  · (intro u hSw; clear hSw; go_simp; try (with_reducible rfl))
  try simp only [Act.put, List.getElem_toArray, List.getElem_cons_zero, List.getElem_cons_succ, List.setIfInBounds_toArray, List.set_cons_zero, List.set_cons_succ]
  have HE := Lib.hid hHeld
  clear hHeld
  refine wpAnyH_done (by kernel_rfl) ?_ _
  try simp only [Act.put, List.getElem_toArray, List.getElem_cons_zero, List.getElem_cons_succ, List.setIfInBounds_toArray, List.set_cons_zero, List.set_cons_succ]
  have HCC := Lib.hid (And.intro (epCells HE.out.tail.head) (epCells HE.out.head))
  obtain ⟨⟨c0, c1, c2, c3⟩, ⟨d0, d1, d2, d3⟩⟩ := HCC.out
  clear c3 d3
  go_wp2_with fail
  refine (HC.out _).mono ?_
  rintro e w2 ⟨rfl, B2⟩
  simp only []
  have H2 := Lib.hid (HE.out.call B2)
  clear B2 c0 c1 c2 d0 d1 d2
  obtain ⟨cs, hcs, hR⟩ := H2.out.2.1
  have HR0 := Lib.hid (And.intro hcs hR)
  have HR := Lib.hid (H2.out.row (cs := M.cells))
  have HF := Lib.hid (H2.out.store (by simp only [List.mem_cons, List.not_mem_nil, or_false]; rintro x (rfl | rfl); exact HN.out.2.1; exact HN.out.1) HN.out.2.2 (cs := M.cells) rfl)
  clear hcs hR
  go_wp2_with (first | (refine Go.wpList_store_row rfl 30 _ _ rfl R M.cells rfl rfl 30 cs HR0.out.2 info30 HR0.out.1 (pkOne M) ?_))
  obtain ⟨w5, hw5⟩ : ∃ x, x = World.setRow w2 R M.cells := ⟨_, rfl⟩
  rw [← hw5] at HR HF ⊢
  have D5 : w5.heap[R]? = some (.cells #[.bool M.src.v6, .int .u64 M.src.hi, .int .u64 M.src.lo, .bool M.dst.v6, .int .u64 M.dst.hi, .int .u64 M.dst.lo, .int .u8 M.proto, .int .u8 M.ttl, .string M.data] 30) := HR.out
  obtain ⟨k0, k1, k2, k3, k4, k5, k6, k7, k8⟩ := pkCells D5
  clear D5 HR hw5
  refine bodyPost_ret (v := .tuple #[.agg #[.bool M.src.v6, .int .u64 M.src.hi, .int .u64 M.src.lo, .bool M.dst.v6, .int .u64 M.dst.hi, .int .u64 M.dst.lo, .int .u8 M.proto, .int .u8 M.ttl, .string M.data], .int .i64 E]) (by simp [results, Try.results9, go_sem, k0, k1, k2, k3, k4, k5, k6, k7, k8]) rfl ⟨rfl, HF.out.2.2⟩

end Go.Proofs.Ytgonakpoflacoaa
