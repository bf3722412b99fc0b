/-
  Echoes made by the document.
-/
import Derived.Test.YtgonakpoflacoaaRefUdp
import Derived.Test.YtgonakpoflacoaaEchoMake
set_option linter.unusedVariables false
set_option linter.unusedSimpArgs false
namespace Go.Proofs.Ytgonakpoflacoaa
open Go.RowKit

theorem kind_conv_ff {u : World} {g : Nat} (h : u.heap[g]? = some (.cells #[.int .u8 8] 5)) : (convert 37 9 (.slice (some ⟨g, 0, none⟩) 1 1)).run Try.prog u = .ok (.string ⟨#[UInt8.ofNat 8]⟩) u := by
  refine bytes_conv [8] rfl ?_
  rw [h]
  simp
set_option maxHeartbeats 16000000 in
set_option maxRecDepth 100000 in
theorem refEcho_ff (h1 l1 : Nat) (b : Ad) (id : Nat) (d : ByteArray) (w : World) (ha : (⟨false, h1, l1⟩ : Ad).Ok) (hb : b.Ok) (hf : id < 65536) (hd : d.size ≤ 9000) :
    Calls Try.prog 13 #[.agg #[.bool false, .int .u64 h1, .int .u64 l1], .agg #[.bool b.v6, .int .u64 b.hi, .int .u64 b.lo], .int .u16 id, .bool false, .string d] w fun e w' =>
      e = .returned (.tuple #[(madeP ⟨⟨false, h1, l1⟩, b, 1, 64, echoD 8 id d⟩ 2).val, .int .i64 (mayE ⟨⟨false, h1, l1⟩, b, 1, 64, echoD 8 id d⟩)]) ∧ Below w.heap.size w w' := by
  obtain ⟨v2, h2, l2⟩ := b
  obtain ⟨D, hD⟩ : ∃ D, D = echoD 8 id d := ⟨_, rfl⟩
  have hDs : D.size = 8 + d.size := by rw [hD]; exact echoD_size _ _ _
  rw [← hD]
  have C3 : ∀ u, Calls Try.prog 24 #[.agg #[.bool false, .int .u64 h1, .int .u64 l1, .bool v2, .int .u64 h2, .int .u64 l2, .int .u8 1, .int .u8 64, .string D], .int .i64 2] u fun e w' => (e = .returned (.tuple #[(madeP ⟨⟨false, h1, l1⟩, ⟨v2, h2, l2⟩, 1, 64, D⟩ 2).val, .int .i64 (mayE ⟨⟨false, h1, l1⟩, ⟨v2, h2, l2⟩, 1, 64, D⟩)]) ∧ Below u.heap.size u w') := fun u => refMade_any ⟨⟨false, h1, l1⟩, ⟨v2, h2, l2⟩, 1, 64, D⟩ 2 u ⟨ha, hb, (by decide : 1 < 256), (by decide : 64 < 256)⟩ (show 2 + 2 ≤ D.size by omega) (show D.size ≤ 10000 by omega)
  have HC := Lib.hid C3
  obtain ⟨M, hM⟩ : ∃ M : Pk, M = madeP ⟨⟨false, h1, l1⟩, ⟨v2, h2, l2⟩, 1, 64, D⟩ 2 := ⟨_, rfl⟩
  obtain ⟨E, hE⟩ : ∃ M, M = mayE ⟨⟨false, h1, l1⟩, ⟨v2, h2, l2⟩, 1, 64, D⟩ := ⟨_, rfl⟩
  rw [← hM, ← hE] at HC
  rw [← hM, ← hE]
  clear C3 hM hE ha hb
  obtain ⟨X1, hX1⟩ : ∃ X : ByteArray, X = ⟨#[UInt8.ofNat 8]⟩ := ⟨_, rfl⟩
  obtain ⟨X2, hX2⟩ : ∃ X, X = beS id 2 := ⟨_, rfl⟩
  have z1 : X1.size = 1 := by rw [hX1]; rfl
  have z2 : X2.size = 2 := by rw [hX2]; exact beS_size _ _
  have a0 := addS X1 ⟨#[0, 0, 0]⟩ (by show X1.size + 3 ≤ _; omega)
  obtain ⟨Y, hY⟩ : ∃ Y, Y = X1 ++ ⟨#[0, 0, 0]⟩ := ⟨_, rfl⟩
  rw [← hY] at a0
  have zY : Y.size = 4 := by rw [hY]; simp only [ByteArray.size_append]; show X1.size + 3 = 4; omega
  have a1 := addS Y X2 (by omega)
  have a2 := addS (Y ++ X2) ⟨#[0, 0]⟩ (by rw [ByteArray.size_append]; show Y.size + X2.size + 2 ≤ _; omega)
  have a3 := addS (Y ++ X2 ++ ⟨#[0, 0]⟩) d (by simp only [ByteArray.size_append]; show Y.size + X2.size + 2 + d.size ≤ _; omega)
  have hDX : Y ++ X2 ++ ⟨#[0, 0]⟩ ++ d = D := by rw [hD, hY, hX1, hX2, echo_parts, ← zero2]; rfl
  rw [hDX] at a3
  have q1 := u64N id hf
  have HX := Lib.hid (And.intro hX1 (And.intro hX2 (show id < 18446744073709551616 by omega)))
  have hz : (d.size : Int) ≤ 9000 := by omega
  clear hX1 hX2 z1 z2 hDX hD hDs hd hf hY zY
  have HW0 : HL [(w.heap.size + 1, .cells #[.bool v2, .int .u64 h2, .int .u64 l2] 24), (w.heap.size, .cells #[.bool false, .int .u64 h1, .int .u64 l1] 24)] (w.heap.size + 1 + 1) 9 w (((w.alloc (.cells #[.bool false, .int .u64 h1, .int .u64 l1] 24)).alloc (.cells #[.bool v2, .int .u64 h2, .int .u64 l2] 24)).alloc (.cells #[.bool false, .int .u64 0, .int .u64 0, .bool false, .int .u64 0, .int .u64 0, .int .u8 0, .int .u8 0, .string ⟨#[]⟩] 30)) := HL.two rfl rfl rfl
  have HW := Lib.hid HW0
  clear HW0
  go_enter Try.func13, Try.ntmps13
  go_wp2_with fail
  obtain ⟨w0, hw0⟩ : ∃ x, x = ((w.alloc (.cells #[.bool false, .int .u64 h1, .int .u64 l1] 24)).alloc (.cells #[.bool v2, .int .u64 h2, .int .u64 l2] 24)).alloc (.cells #[.bool false, .int .u64 0, .int .u64 0, .bool false, .int .u64 0, .int .u64 0, .int .u8 0, .int .u8 0, .string ⟨#[]⟩] 30) := ⟨_, rfl⟩
  obtain ⟨R, hR⟩ : ∃ x, x = w.heap.size + 1 + 1 := ⟨_, rfl⟩
  obtain ⟨B, hB⟩ : ∃ x, x = w.heap.size + 1 := ⟨_, rfl⟩
  obtain ⟨A, hA⟩ : ∃ x, x = w.heap.size := ⟨_, rfl⟩
  have HN := Lib.hid (show A ≠ R ∧ B ≠ R ∧ w.heap.size ≤ R by omega)
  have HW : Hid (HL [(B, .cells #[.bool v2, .int .u64 h2, .int .u64 l2] 24), (A, .cells #[.bool false, .int .u64 h1, .int .u64 l1] 24)] R 9 w w0) := by rw [hw0, hR, hB, hA]; exact Lib.hid HW.out
  rw [← hw0, ← hR, ← hB]
  rw [← hA]
  clear hw0 hR hB hA
  refine wp_region_held_drew (S := fun u => HL [(B, .cells #[.bool v2, .int .u64 h2, .int .u64 l2] 24), (A, .cells #[.bool false, .int .u64 h1, .int .u64 l1] 24)] R 9 w u) (by kernel_rfl) HW.out.drew (fun hHeld => ?_)
  refine wpAnyH_take (i := 0) (v := ?_) rfl (by kernel_rfl) (by kernel_rfl) (by kernel_rfl) (fun _ _ _ h => h) (Or.inl ⟨by rfl, ?_⟩) (by assumption) ?_
  rotate_left 1
  · (intro u hSw; clear hSw; go_simp; try (with_reducible rfl))
  try simp only [Act.put, List.getElem_toArray, List.getElem_cons_zero, List.getElem_cons_succ, List.setIfInBounds_toArray, List.set_cons_zero, List.set_cons_succ]
  refine wpAnyH_take (i := 4) (v := ?_) rfl (by kernel_rfl) (by kernel_rfl) (by kernel_rfl) (fun _ _ _ h => h) (Or.inl ⟨by rfl, ?_⟩) (by assumption) ?_
  rotate_left 1
  · (intro u hSw; clear hSw; go_simp; try (with_reducible rfl))
  try simp only [Act.put, List.getElem_toArray, List.getElem_cons_zero, List.getElem_cons_succ, List.setIfInBounds_toArray, List.set_cons_zero, List.set_cons_succ]
  refine wpAnyH_take (i := 5) (v := ?_) rfl (by kernel_rfl) (by kernel_rfl) (by kernel_rfl) (fun _ _ _ h => h) (Or.inl ⟨by rfl, ?_⟩) (by assumption) ?_
  rotate_left 1
  · (intro u hSw; clear hSw; go_simp; try (with_reducible rfl))
  try simp only [Act.put, List.getElem_toArray, List.getElem_cons_zero, List.getElem_cons_succ, List.setIfInBounds_toArray, List.set_cons_zero, List.set_cons_succ]
  refine wpAnyH_take (i := 9) (v := ?_) rfl (by kernel_rfl) (by kernel_rfl) (by kernel_rfl) (fun _ _ _ h => h) (Or.inl ⟨by rfl, ?_⟩) (by assumption) ?_
  rotate_left 1
  · (intro u hSw; clear hSw; go_simp; try (with_reducible rfl))
  try simp only [Act.put, List.getElem_toArray, List.getElem_cons_zero, List.getElem_cons_succ, List.setIfInBounds_toArray, List.set_cons_zero, List.set_cons_succ]
  refine wpAnyH_ready (rs := [1, 6]) (by kernel_rfl) (by simp) ?_
  refine AllReadyH.cons (i := 1) (o := ?o3) ?ho3 (fun K hK => ?st3) ?mo3
  case ho3 => rfl
  case st3 =>
    have HS := Lib.hid hHeld
    clear hHeld
    go_simp
    refine hK.out _ (w0.alloc (.cells #[.int .u8 8] 5)).drew (HS.out.alloc _) (fun hHeld => ?_)
    have hHeld : HL [(w0.heap.size, .cells #[.int .u8 8] 5), (B, .cells #[.bool v2, .int .u64 h2, .int .u64 l2] 24), (A, .cells #[.bool false, .int .u64 h1, .int .u64 l1] 24)] R 9 w (w0.alloc (.cells #[.int .u8 8] 5)).drew := HS.out.made _
    refine wpAnyH_strong (S2 := fun u => HL [(w0.heap.size, .cells #[.int .u8 8] 5), (B, .cells #[.bool v2, .int .u64 h2, .int .u64 l2] 24), (A, .cells #[.bool false, .int .u64 h1, .int .u64 l1] 24)] R 9 w u) (fun u hu => hu.tail) _ _ _ _ ?_
    clear hK K HS
    obtain ⟨g1, hgg⟩ : ∃ g, g = w0.heap.size := ⟨_, rfl⟩
    rw [← hgg] at hHeld ⊢
    obtain ⟨v1, hwn⟩ : ∃ x, x = (w0.alloc (.cells #[.int .u8 8] 5)).drew := ⟨_, rfl⟩
    rw [← hwn] at hHeld ⊢
    clear hgg hwn
    try simp only [Act.put, List.getElem_toArray, List.getElem_cons_zero, List.getElem_cons_succ, List.setIfInBounds_toArray, List.set_cons_zero, List.set_cons_succ]
    refine wpAnyH_take (i := 2) (v := ?_) rfl (by kernel_rfl) (by kernel_rfl) (by kernel_rfl) (fun _ _ _ h => h) (Or.inl ⟨by rfl, ?_⟩) (by assumption) ?_
    rotate_left 1
    · (intro u hSw; have hcv := kind_conv_ff (hSw.head); rw [← HX.out.1] at hcv; clear hSw; go_simp; try (with_reducible rfl))
    try simp only [Act.put, List.getElem_toArray, List.getElem_cons_zero, List.getElem_cons_succ, List.setIfInBounds_toArray, List.set_cons_zero, List.set_cons_succ]
    refine wpAnyH_take (i := 3) (v := ?_) rfl (by kernel_rfl) (by kernel_rfl) (by kernel_rfl) (fun _ _ _ h => h) (Or.inl ⟨by rfl, ?_⟩) (by assumption) ?_
    rotate_left 1
    · (intro u hSw; clear hSw; go_simp; try (with_reducible rfl))
    try simp only [Act.put, List.getElem_toArray, List.getElem_cons_zero, List.getElem_cons_succ, List.setIfInBounds_toArray, List.set_cons_zero, List.set_cons_succ]
    refine wpAnyH_ready (rs := [6]) (by kernel_rfl) (by simp) ?_
    refine AllReadyH.cons rfl (fun K hK => ?_) AllReadyH.nil
    have HS := Lib.hid hHeld
    clear hHeld
    go_simp
    refine (num_any id 2 _ HX.out.2.2 (by decide) (by decide)).mono ?_
    rintro e w1 ⟨rfl, B1⟩
    rw [← HX.out.2.1]
    simp only []
    refine hK.out _ _ (HS.out.call B1) (fun hHeld => ?_)
    clear hK K HS B1
    try simp only [Act.put, List.getElem_toArray, List.getElem_cons_zero, List.getElem_cons_succ, List.setIfInBounds_toArray, List.set_cons_zero, List.set_cons_succ]
    refine wpAnyH_take (i := 7) (v := ?_) rfl (by kernel_rfl) (by kernel_rfl) (by kernel_rfl) (fun _ _ _ h => h) (Or.inl ⟨by rfl, ?_⟩) (by assumption) ?_
    rotate_left 1
    · (intro u hSw; clear hSw; go_simp; try (with_reducible rfl))
    try simp only [Act.put, List.getElem_toArray, List.getElem_cons_zero, List.getElem_cons_succ, List.setIfInBounds_toArray, List.set_cons_zero, List.set_cons_succ]
    refine wpAnyH_take (i := 8) (v := ?_) rfl (by kernel_rfl) (by kernel_rfl) (by kernel_rfl) (fun _ _ _ h => h) (Or.inl ⟨by rfl, ?_⟩) (by assumption) ?_
    rotate_left 1
    · (intro u hSw; clear hSw; go_simp; try (with_reducible rfl))
    try simp only [Act.put, List.getElem_toArray, List.getElem_cons_zero, List.getElem_cons_succ, List.setIfInBounds_toArray, List.set_cons_zero, List.set_cons_succ]
    refine wpAnyH_take (i := 10) (v := ?_) rfl (by kernel_rfl) (by kernel_rfl) (by kernel_rfl) (fun _ _ _ h => h) (Or.inl ⟨by rfl, ?_⟩) (by assumption) ?_
    rotate_left 1
    · (intro u hSw; clear hSw; go_simp; try (with_reducible rfl))
    try simp only [Act.put, List.getElem_toArray, List.getElem_cons_zero, List.getElem_cons_succ, List.setIfInBounds_toArray, List.set_cons_zero, List.set_cons_succ]
    refine wpAnyH_take (i := 11) (v := ?_) rfl (by kernel_rfl) (by kernel_rfl) (by kernel_rfl) (fun _ _ _ h => h) (Or.inl ⟨by rfl, ?_⟩) (by assumption) ?_
    rotate_left 1
    · (intro u hSw; clear hSw; go_simp; try (with_reducible rfl))
    try simp only [Act.put, List.getElem_toArray, List.getElem_cons_zero, List.getElem_cons_succ, List.setIfInBounds_toArray, List.set_cons_zero, List.set_cons_succ]
    have HE := Lib.hid hHeld
    clear hHeld
    refine wpAnyH_done (by kernel_rfl) ?_ _
    try simp only [Act.put, List.getElem_toArray, List.getElem_cons_zero, List.getElem_cons_succ, List.setIfInBounds_toArray, List.set_cons_zero, List.set_cons_succ]
    have HE := Lib.hid HE.out.tail
    have HCC := Lib.hid (And.intro (adCells HE.out.tail.head) (adCells HE.out.head))
    obtain ⟨⟨c0, c1, c2⟩, ⟨d0, d1, d2⟩⟩ := HCC.out
    go_wp2_with fail
    refine (HC.out _).mono ?_
    rintro e w2 ⟨rfl, B2⟩
    simp only []
    have H2 := Lib.hid (HE.out.call B2)
    clear B2 c0 c1 c2 d0 d1 d2
    obtain ⟨cs, hcs, hR⟩ := H2.out.2.1
    have HR0 := Lib.hid (And.intro hcs hR)
    have HR := Lib.hid (H2.out.row (cs := M.cells))
    have HF := Lib.hid (H2.out.store (by simp only [List.mem_cons, List.not_mem_nil, or_false]; rintro x (rfl | rfl); exact HN.out.2.1; exact HN.out.1) HN.out.2.2 (cs := M.cells) rfl)
    clear hcs hR
    go_wp2_with (first | (refine Go.wpList_store_row rfl 30 _ _ rfl R M.cells rfl rfl 30 cs HR0.out.2 info30 HR0.out.1 (pkOne M) ?_))
    obtain ⟨w5, hw5⟩ : ∃ x, x = World.setRow w2 R M.cells := ⟨_, rfl⟩
    rw [← hw5] at HR HF ⊢
    have D5 : w5.heap[R]? = some (.cells #[.bool M.src.v6, .int .u64 M.src.hi, .int .u64 M.src.lo, .bool M.dst.v6, .int .u64 M.dst.hi, .int .u64 M.dst.lo, .int .u8 M.proto, .int .u8 M.ttl, .string M.data] 30) := HR.out
    obtain ⟨k0, k1, k2, k3, k4, k5, k6, k7, k8⟩ := pkCells D5
    clear D5 HR hw5
    refine bodyPost_ret (v := .tuple #[.agg #[.bool M.src.v6, .int .u64 M.src.hi, .int .u64 M.src.lo, .bool M.dst.v6, .int .u64 M.dst.hi, .int .u64 M.dst.lo, .int .u8 M.proto, .int .u8 M.ttl, .string M.data], .int .i64 E]) (by simp [results, Try.results13, go_sem, k0, k1, k2, k3, k4, k5, k6, k7, k8]) rfl ⟨rfl, HF.out.2.2⟩
  case mo3 =>
    refine AllReadyH.cons rfl (fun K hK => ?_) AllReadyH.nil
    have HS := Lib.hid hHeld
    clear hHeld
    go_simp
    refine (num_any id 2 _ HX.out.2.2 (by decide) (by decide)).mono ?_
    rintro e w1 ⟨rfl, B1⟩
    rw [← HX.out.2.1]
    simp only []
    refine hK.out _ _ (HS.out.call B1) (fun hHeld => ?_)
    clear hK K HS B1
    try simp only [Act.put, List.getElem_toArray, List.getElem_cons_zero, List.getElem_cons_succ, List.setIfInBounds_toArray, List.set_cons_zero, List.set_cons_succ]
    refine wpAnyH_ready (rs := [1]) (by kernel_rfl) (by simp) ?_
    refine AllReadyH.cons rfl (fun K hK => ?_) AllReadyH.nil
    have HS := Lib.hid hHeld
    clear hHeld
    go_simp
    refine hK.out _ (w1.alloc (.cells #[.int .u8 8] 5)) (HS.out.alloc _) (fun hHeld => ?_)
    have hHeld : HL [(w1.heap.size, .cells #[.int .u8 8] 5), (B, .cells #[.bool v2, .int .u64 h2, .int .u64 l2] 24), (A, .cells #[.bool false, .int .u64 h1, .int .u64 l1] 24)] R 9 w (w1.alloc (.cells #[.int .u8 8] 5)) := HS.out.made _
    refine wpAnyH_strong (S2 := fun u => HL [(w1.heap.size, .cells #[.int .u8 8] 5), (B, .cells #[.bool v2, .int .u64 h2, .int .u64 l2] 24), (A, .cells #[.bool false, .int .u64 h1, .int .u64 l1] 24)] R 9 w u) (fun u hu => hu.tail) _ _ _ _ ?_
    clear hK K HS
    obtain ⟨g1, hgg⟩ : ∃ g, g = w1.heap.size := ⟨_, rfl⟩
    rw [← hgg] at hHeld ⊢
    obtain ⟨v1, hwn⟩ : ∃ x, x = (w1.alloc (.cells #[.int .u8 8] 5)) := ⟨_, rfl⟩
    rw [← hwn] at hHeld ⊢
    clear hgg hwn
    try simp only [Act.put, List.getElem_toArray, List.getElem_cons_zero, List.getElem_cons_succ, List.setIfInBounds_toArray, List.set_cons_zero, List.set_cons_succ]
    refine wpAnyH_take (i := 2) (v := ?_) rfl (by kernel_rfl) (by kernel_rfl) (by kernel_rfl) (fun _ _ _ h => h) (Or.inl ⟨by rfl, ?_⟩) (by assumption) ?_
    rotate_left 1
    · (intro u hSw; have hcv := kind_conv_ff (hSw.head); rw [← HX.out.1] at hcv; clear hSw; go_simp; try (with_reducible rfl))
    try simp only [Act.put, List.getElem_toArray, List.getElem_cons_zero, List.getElem_cons_succ, List.setIfInBounds_toArray, List.set_cons_zero, List.set_cons_succ]
    refine wpAnyH_take (i := 3) (v := ?_) rfl (by kernel_rfl) (by kernel_rfl) (by kernel_rfl) (fun _ _ _ h => h) (Or.inl ⟨by rfl, ?_⟩) (by assumption) ?_
    rotate_left 1
    · (intro u hSw; clear hSw; go_simp; try (with_reducible rfl))
    try simp only [Act.put, List.getElem_toArray, List.getElem_cons_zero, List.getElem_cons_succ, List.setIfInBounds_toArray, List.set_cons_zero, List.set_cons_succ]
    refine wpAnyH_take (i := 7) (v := ?_) rfl (by kernel_rfl) (by kernel_rfl) (by kernel_rfl) (fun _ _ _ h => h) (Or.inl ⟨by rfl, ?_⟩) (by assumption) ?_
    rotate_left 1
    · (intro u hSw; clear hSw; go_simp; try (with_reducible rfl))
    try simp only [Act.put, List.getElem_toArray, List.getElem_cons_zero, List.getElem_cons_succ, List.setIfInBounds_toArray, List.set_cons_zero, List.set_cons_succ]
    refine wpAnyH_take (i := 8) (v := ?_) rfl (by kernel_rfl) (by kernel_rfl) (by kernel_rfl) (fun _ _ _ h => h) (Or.inl ⟨by rfl, ?_⟩) (by assumption) ?_
    rotate_left 1
    · (intro u hSw; clear hSw; go_simp; try (with_reducible rfl))
    try simp only [Act.put, List.getElem_toArray, List.getElem_cons_zero, List.getElem_cons_succ, List.setIfInBounds_toArray, List.set_cons_zero, List.set_cons_succ]
    refine wpAnyH_take (i := 10) (v := ?_) rfl (by kernel_rfl) (by kernel_rfl) (by kernel_rfl) (fun _ _ _ h => h) (Or.inl ⟨by rfl, ?_⟩) (by assumption) ?_
    rotate_left 1
    · (intro u hSw; clear hSw; go_simp; try (with_reducible rfl))
    try simp only [Act.put, List.getElem_toArray, List.getElem_cons_zero, List.getElem_cons_succ, List.setIfInBounds_toArray, List.set_cons_zero, List.set_cons_succ]
    refine wpAnyH_take (i := 11) (v := ?_) rfl (by kernel_rfl) (by kernel_rfl) (by kernel_rfl) (fun _ _ _ h => h) (Or.inl ⟨by rfl, ?_⟩) (by assumption) ?_
    rotate_left 1
    · (intro u hSw; clear hSw; go_simp; try (with_reducible rfl))
    try simp only [Act.put, List.getElem_toArray, List.getElem_cons_zero, List.getElem_cons_succ, List.setIfInBounds_toArray, List.set_cons_zero, List.set_cons_succ]
    have HE := Lib.hid hHeld
    clear hHeld
    refine wpAnyH_done (by kernel_rfl) ?_ _
    try simp only [Act.put, List.getElem_toArray, List.getElem_cons_zero, List.getElem_cons_succ, List.setIfInBounds_toArray, List.set_cons_zero, List.set_cons_succ]
    have HE := Lib.hid HE.out.tail
    have HCC := Lib.hid (And.intro (adCells HE.out.tail.head) (adCells HE.out.head))
    obtain ⟨⟨c0, c1, c2⟩, ⟨d0, d1, d2⟩⟩ := HCC.out
    go_wp2_with fail
    refine (HC.out _).mono ?_
    rintro e w2 ⟨rfl, B2⟩
    simp only []
    have H2 := Lib.hid (HE.out.call B2)
    clear B2 c0 c1 c2 d0 d1 d2
    obtain ⟨cs, hcs, hR⟩ := H2.out.2.1
    have HR0 := Lib.hid (And.intro hcs hR)
    have HR := Lib.hid (H2.out.row (cs := M.cells))
    have HF := Lib.hid (H2.out.store (by simp only [List.mem_cons, List.not_mem_nil, or_false]; rintro x (rfl | rfl); exact HN.out.2.1; exact HN.out.1) HN.out.2.2 (cs := M.cells) rfl)
    clear hcs hR
    go_wp2_with (first | (refine Go.wpList_store_row rfl 30 _ _ rfl R M.cells rfl rfl 30 cs HR0.out.2 info30 HR0.out.1 (pkOne M) ?_))
    obtain ⟨w5, hw5⟩ : ∃ x, x = World.setRow w2 R M.cells := ⟨_, rfl⟩
    rw [← hw5] at HR HF ⊢
    have D5 : w5.heap[R]? = some (.cells #[.bool M.src.v6, .int .u64 M.src.hi, .int .u64 M.src.lo, .bool M.dst.v6, .int .u64 M.dst.hi, .int .u64 M.dst.lo, .int .u8 M.proto, .int .u8 M.ttl, .string M.data] 30) := HR.out
    obtain ⟨k0, k1, k2, k3, k4, k5, k6, k7, k8⟩ := pkCells D5
    clear D5 HR hw5
    refine bodyPost_ret (v := .tuple #[.agg #[.bool M.src.v6, .int .u64 M.src.hi, .int .u64 M.src.lo, .bool M.dst.v6, .int .u64 M.dst.hi, .int .u64 M.dst.lo, .int .u8 M.proto, .int .u8 M.ttl, .string M.data], .int .i64 E]) (by simp [results, Try.results13, go_sem, k0, k1, k2, k3, k4, k5, k6, k7, k8]) rfl ⟨rfl, HF.out.2.2⟩
theorem kind_conv_ft {u : World} {g : Nat} (h : u.heap[g]? = some (.cells #[.int .u8 0] 5)) : (convert 37 9 (.slice (some ⟨g, 0, none⟩) 1 1)).run Try.prog u = .ok (.string ⟨#[UInt8.ofNat 0]⟩) u := by
  refine bytes_conv [0] rfl ?_
  rw [h]
  simp
set_option maxHeartbeats 16000000 in
set_option maxRecDepth 100000 in
theorem refEcho_ft (h1 l1 : Nat) (b : Ad) (id : Nat) (d : ByteArray) (w : World) (ha : (⟨false, h1, l1⟩ : Ad).Ok) (hb : b.Ok) (hf : id < 65536) (hd : d.size ≤ 9000) :
    Calls Try.prog 13 #[.agg #[.bool false, .int .u64 h1, .int .u64 l1], .agg #[.bool b.v6, .int .u64 b.hi, .int .u64 b.lo], .int .u16 id, .bool true, .string d] w fun e w' =>
      e = .returned (.tuple #[(madeP ⟨⟨false, h1, l1⟩, b, 1, 64, echoD 0 id d⟩ 2).val, .int .i64 (mayE ⟨⟨false, h1, l1⟩, b, 1, 64, echoD 0 id d⟩)]) ∧ Below w.heap.size w w' := by
  obtain ⟨v2, h2, l2⟩ := b
  obtain ⟨D, hD⟩ : ∃ D, D = echoD 0 id d := ⟨_, rfl⟩
  have hDs : D.size = 8 + d.size := by rw [hD]; exact echoD_size _ _ _
  rw [← hD]
  have C3 : ∀ u, Calls Try.prog 24 #[.agg #[.bool false, .int .u64 h1, .int .u64 l1, .bool v2, .int .u64 h2, .int .u64 l2, .int .u8 1, .int .u8 64, .string D], .int .i64 2] u fun e w' => (e = .returned (.tuple #[(madeP ⟨⟨false, h1, l1⟩, ⟨v2, h2, l2⟩, 1, 64, D⟩ 2).val, .int .i64 (mayE ⟨⟨false, h1, l1⟩, ⟨v2, h2, l2⟩, 1, 64, D⟩)]) ∧ Below u.heap.size u w') := fun u => refMade_any ⟨⟨false, h1, l1⟩, ⟨v2, h2, l2⟩, 1, 64, D⟩ 2 u ⟨ha, hb, (by decide : 1 < 256), (by decide : 64 < 256)⟩ (show 2 + 2 ≤ D.size by omega) (show D.size ≤ 10000 by omega)
  have HC := Lib.hid C3
  obtain ⟨M, hM⟩ : ∃ M : Pk, M = madeP ⟨⟨false, h1, l1⟩, ⟨v2, h2, l2⟩, 1, 64, D⟩ 2 := ⟨_, rfl⟩
  obtain ⟨E, hE⟩ : ∃ M, M = mayE ⟨⟨false, h1, l1⟩, ⟨v2, h2, l2⟩, 1, 64, D⟩ := ⟨_, rfl⟩
  rw [← hM, ← hE] at HC
  rw [← hM, ← hE]
  clear C3 hM hE ha hb
  obtain ⟨X1, hX1⟩ : ∃ X : ByteArray, X = ⟨#[UInt8.ofNat 0]⟩ := ⟨_, rfl⟩
  obtain ⟨X2, hX2⟩ : ∃ X, X = beS id 2 := ⟨_, rfl⟩
  have z1 : X1.size = 1 := by rw [hX1]; rfl
  have z2 : X2.size = 2 := by rw [hX2]; exact beS_size _ _
  have a0 := addS X1 ⟨#[0, 0, 0]⟩ (by show X1.size + 3 ≤ _; omega)
  obtain ⟨Y, hY⟩ : ∃ Y, Y = X1 ++ ⟨#[0, 0, 0]⟩ := ⟨_, rfl⟩
  rw [← hY] at a0
  have zY : Y.size = 4 := by rw [hY]; simp only [ByteArray.size_append]; show X1.size + 3 = 4; omega
  have a1 := addS Y X2 (by omega)
  have a2 := addS (Y ++ X2) ⟨#[0, 0]⟩ (by rw [ByteArray.size_append]; show Y.size + X2.size + 2 ≤ _; omega)
  have a3 := addS (Y ++ X2 ++ ⟨#[0, 0]⟩) d (by simp only [ByteArray.size_append]; show Y.size + X2.size + 2 + d.size ≤ _; omega)
  have hDX : Y ++ X2 ++ ⟨#[0, 0]⟩ ++ d = D := by rw [hD, hY, hX1, hX2, echo_parts, ← zero2]; rfl
  rw [hDX] at a3
  have q1 := u64N id hf
  have HX := Lib.hid (And.intro hX1 (And.intro hX2 (show id < 18446744073709551616 by omega)))
  have hz : (d.size : Int) ≤ 9000 := by omega
  clear hX1 hX2 z1 z2 hDX hD hDs hd hf hY zY
  have HW0 : HL [(w.heap.size + 1, .cells #[.bool v2, .int .u64 h2, .int .u64 l2] 24), (w.heap.size, .cells #[.bool false, .int .u64 h1, .int .u64 l1] 24)] (w.heap.size + 1 + 1) 9 w (((w.alloc (.cells #[.bool false, .int .u64 h1, .int .u64 l1] 24)).alloc (.cells #[.bool v2, .int .u64 h2, .int .u64 l2] 24)).alloc (.cells #[.bool false, .int .u64 0, .int .u64 0, .bool false, .int .u64 0, .int .u64 0, .int .u8 0, .int .u8 0, .string ⟨#[]⟩] 30)) := HL.two rfl rfl rfl
  have HW := Lib.hid HW0
  clear HW0
  go_enter Try.func13, Try.ntmps13
  go_wp2_with fail
  obtain ⟨w0, hw0⟩ : ∃ x, x = ((w.alloc (.cells #[.bool false, .int .u64 h1, .int .u64 l1] 24)).alloc (.cells #[.bool v2, .int .u64 h2, .int .u64 l2] 24)).alloc (.cells #[.bool false, .int .u64 0, .int .u64 0, .bool false, .int .u64 0, .int .u64 0, .int .u8 0, .int .u8 0, .string ⟨#[]⟩] 30) := ⟨_, rfl⟩
  obtain ⟨R, hR⟩ : ∃ x, x = w.heap.size + 1 + 1 := ⟨_, rfl⟩
  obtain ⟨B, hB⟩ : ∃ x, x = w.heap.size + 1 := ⟨_, rfl⟩
  obtain ⟨A, hA⟩ : ∃ x, x = w.heap.size := ⟨_, rfl⟩
  have HN := Lib.hid (show A ≠ R ∧ B ≠ R ∧ w.heap.size ≤ R by omega)
  have HW : Hid (HL [(B, .cells #[.bool v2, .int .u64 h2, .int .u64 l2] 24), (A, .cells #[.bool false, .int .u64 h1, .int .u64 l1] 24)] R 9 w w0) := by rw [hw0, hR, hB, hA]; exact Lib.hid HW.out
  rw [← hw0, ← hR, ← hB]
  rw [← hA]
  clear hw0 hR hB hA
  refine wp_region_held_drew (S := fun u => HL [(B, .cells #[.bool v2, .int .u64 h2, .int .u64 l2] 24), (A, .cells #[.bool false, .int .u64 h1, .int .u64 l1] 24)] R 9 w u) (by kernel_rfl) HW.out.drew (fun hHeld => ?_)
  refine wpAnyH_take (i := 0) (v := ?_) rfl (by kernel_rfl) (by kernel_rfl) (by kernel_rfl) (fun _ _ _ h => h) (Or.inl ⟨by rfl, ?_⟩) (by assumption) ?_
  rotate_left 1
  · (intro u hSw; clear hSw; go_simp; try (with_reducible rfl))
  try simp only [Act.put, List.getElem_toArray, List.getElem_cons_zero, List.getElem_cons_succ, List.setIfInBounds_toArray, List.set_cons_zero, List.set_cons_succ]
  refine wpAnyH_take (i := 4) (v := ?_) rfl (by kernel_rfl) (by kernel_rfl) (by kernel_rfl) (fun _ _ _ h => h) (Or.inl ⟨by rfl, ?_⟩) (by assumption) ?_
  rotate_left 1
  · (intro u hSw; clear hSw; go_simp; try (with_reducible rfl))
  try simp only [Act.put, List.getElem_toArray, List.getElem_cons_zero, List.getElem_cons_succ, List.setIfInBounds_toArray, List.set_cons_zero, List.set_cons_succ]
  refine wpAnyH_take (i := 5) (v := ?_) rfl (by kernel_rfl) (by kernel_rfl) (by kernel_rfl) (fun _ _ _ h => h) (Or.inl ⟨by rfl, ?_⟩) (by assumption) ?_
  rotate_left 1
  · (intro u hSw; clear hSw; go_simp; try (with_reducible rfl))
  try simp only [Act.put, List.getElem_toArray, List.getElem_cons_zero, List.getElem_cons_succ, List.setIfInBounds_toArray, List.set_cons_zero, List.set_cons_succ]
  refine wpAnyH_take (i := 9) (v := ?_) rfl (by kernel_rfl) (by kernel_rfl) (by kernel_rfl) (fun _ _ _ h => h) (Or.inl ⟨by rfl, ?_⟩) (by assumption) ?_
  rotate_left 1
  · (intro u hSw; clear hSw; go_simp; try (with_reducible rfl))
  try simp only [Act.put, List.getElem_toArray, List.getElem_cons_zero, List.getElem_cons_succ, List.setIfInBounds_toArray, List.set_cons_zero, List.set_cons_succ]
  refine wpAnyH_ready (rs := [1, 6]) (by kernel_rfl) (by simp) ?_
  refine AllReadyH.cons (i := 1) (o := ?o6) ?ho6 (fun K hK => ?st6) ?mo6
  case ho6 => rfl
  case st6 =>
    have HS := Lib.hid hHeld
    clear hHeld
    go_simp
    refine hK.out _ (w0.alloc (.cells #[.int .u8 0] 5)).drew (HS.out.alloc _) (fun hHeld => ?_)
    have hHeld : HL [(w0.heap.size, .cells #[.int .u8 0] 5), (B, .cells #[.bool v2, .int .u64 h2, .int .u64 l2] 24), (A, .cells #[.bool false, .int .u64 h1, .int .u64 l1] 24)] R 9 w (w0.alloc (.cells #[.int .u8 0] 5)).drew := HS.out.made _
    refine wpAnyH_strong (S2 := fun u => HL [(w0.heap.size, .cells #[.int .u8 0] 5), (B, .cells #[.bool v2, .int .u64 h2, .int .u64 l2] 24), (A, .cells #[.bool false, .int .u64 h1, .int .u64 l1] 24)] R 9 w u) (fun u hu => hu.tail) _ _ _ _ ?_
    clear hK K HS
    obtain ⟨g1, hgg⟩ : ∃ g, g = w0.heap.size := ⟨_, rfl⟩
    rw [← hgg] at hHeld ⊢
    obtain ⟨v1, hwn⟩ : ∃ x, x = (w0.alloc (.cells #[.int .u8 0] 5)).drew := ⟨_, rfl⟩
    rw [← hwn] at hHeld ⊢
    clear hgg hwn
    try simp only [Act.put, List.getElem_toArray, List.getElem_cons_zero, List.getElem_cons_succ, List.setIfInBounds_toArray, List.set_cons_zero, List.set_cons_succ]
    refine wpAnyH_take (i := 2) (v := ?_) rfl (by kernel_rfl) (by kernel_rfl) (by kernel_rfl) (fun _ _ _ h => h) (Or.inl ⟨by rfl, ?_⟩) (by assumption) ?_
    rotate_left 1
    · (intro u hSw; have hcv := kind_conv_ft (hSw.head); rw [← HX.out.1] at hcv; clear hSw; go_simp; try (with_reducible rfl))
    try simp only [Act.put, List.getElem_toArray, List.getElem_cons_zero, List.getElem_cons_succ, List.setIfInBounds_toArray, List.set_cons_zero, List.set_cons_succ]
    refine wpAnyH_take (i := 3) (v := ?_) rfl (by kernel_rfl) (by kernel_rfl) (by kernel_rfl) (fun _ _ _ h => h) (Or.inl ⟨by rfl, ?_⟩) (by assumption) ?_
    rotate_left 1
    · (intro u hSw; clear hSw; go_simp; try (with_reducible rfl))
    try simp only [Act.put, List.getElem_toArray, List.getElem_cons_zero, List.getElem_cons_succ, List.setIfInBounds_toArray, List.set_cons_zero, List.set_cons_succ]
    refine wpAnyH_ready (rs := [6]) (by kernel_rfl) (by simp) ?_
    refine AllReadyH.cons rfl (fun K hK => ?_) AllReadyH.nil
    have HS := Lib.hid hHeld
    clear hHeld
    go_simp
    refine (num_any id 2 _ HX.out.2.2 (by decide) (by decide)).mono ?_
    rintro e w1 ⟨rfl, B1⟩
    rw [← HX.out.2.1]
    simp only []
    refine hK.out _ _ (HS.out.call B1) (fun hHeld => ?_)
    clear hK K HS B1
    try simp only [Act.put, List.getElem_toArray, List.getElem_cons_zero, List.getElem_cons_succ, List.setIfInBounds_toArray, List.set_cons_zero, List.set_cons_succ]
    refine wpAnyH_take (i := 7) (v := ?_) rfl (by kernel_rfl) (by kernel_rfl) (by kernel_rfl) (fun _ _ _ h => h) (Or.inl ⟨by rfl, ?_⟩) (by assumption) ?_
    rotate_left 1
    · (intro u hSw; clear hSw; go_simp; try (with_reducible rfl))
    try simp only [Act.put, List.getElem_toArray, List.getElem_cons_zero, List.getElem_cons_succ, List.setIfInBounds_toArray, List.set_cons_zero, List.set_cons_succ]
    refine wpAnyH_take (i := 8) (v := ?_) rfl (by kernel_rfl) (by kernel_rfl) (by kernel_rfl) (fun _ _ _ h => h) (Or.inl ⟨by rfl, ?_⟩) (by assumption) ?_
    rotate_left 1
    · (intro u hSw; clear hSw; go_simp; try (with_reducible rfl))
    try simp only [Act.put, List.getElem_toArray, List.getElem_cons_zero, List.getElem_cons_succ, List.setIfInBounds_toArray, List.set_cons_zero, List.set_cons_succ]
    refine wpAnyH_take (i := 10) (v := ?_) rfl (by kernel_rfl) (by kernel_rfl) (by kernel_rfl) (fun _ _ _ h => h) (Or.inl ⟨by rfl, ?_⟩) (by assumption) ?_
    rotate_left 1
    · (intro u hSw; clear hSw; go_simp; try (with_reducible rfl))
    try simp only [Act.put, List.getElem_toArray, List.getElem_cons_zero, List.getElem_cons_succ, List.setIfInBounds_toArray, List.set_cons_zero, List.set_cons_succ]
    refine wpAnyH_take (i := 11) (v := ?_) rfl (by kernel_rfl) (by kernel_rfl) (by kernel_rfl) (fun _ _ _ h => h) (Or.inl ⟨by rfl, ?_⟩) (by assumption) ?_
    rotate_left 1
    · (intro u hSw; clear hSw; go_simp; try (with_reducible rfl))
    try simp only [Act.put, List.getElem_toArray, List.getElem_cons_zero, List.getElem_cons_succ, List.setIfInBounds_toArray, List.set_cons_zero, List.set_cons_succ]
    have HE := Lib.hid hHeld
    clear hHeld
    refine wpAnyH_done (by kernel_rfl) ?_ _
    try simp only [Act.put, List.getElem_toArray, List.getElem_cons_zero, List.getElem_cons_succ, List.setIfInBounds_toArray, List.set_cons_zero, List.set_cons_succ]
    have HE := Lib.hid HE.out.tail
    have HCC := Lib.hid (And.intro (adCells HE.out.tail.head) (adCells HE.out.head))
    obtain ⟨⟨c0, c1, c2⟩, ⟨d0, d1, d2⟩⟩ := HCC.out
    go_wp2_with fail
    refine (HC.out _).mono ?_
    rintro e w2 ⟨rfl, B2⟩
    simp only []
    have H2 := Lib.hid (HE.out.call B2)
    clear B2 c0 c1 c2 d0 d1 d2
    obtain ⟨cs, hcs, hR⟩ := H2.out.2.1
    have HR0 := Lib.hid (And.intro hcs hR)
    have HR := Lib.hid (H2.out.row (cs := M.cells))
    have HF := Lib.hid (H2.out.store (by simp only [List.mem_cons, List.not_mem_nil, or_false]; rintro x (rfl | rfl); exact HN.out.2.1; exact HN.out.1) HN.out.2.2 (cs := M.cells) rfl)
    clear hcs hR
    go_wp2_with (first | (refine Go.wpList_store_row rfl 30 _ _ rfl R M.cells rfl rfl 30 cs HR0.out.2 info30 HR0.out.1 (pkOne M) ?_))
    obtain ⟨w5, hw5⟩ : ∃ x, x = World.setRow w2 R M.cells := ⟨_, rfl⟩
    rw [← hw5] at HR HF ⊢
    have D5 : w5.heap[R]? = some (.cells #[.bool M.src.v6, .int .u64 M.src.hi, .int .u64 M.src.lo, .bool M.dst.v6, .int .u64 M.dst.hi, .int .u64 M.dst.lo, .int .u8 M.proto, .int .u8 M.ttl, .string M.data] 30) := HR.out
    obtain ⟨k0, k1, k2, k3, k4, k5, k6, k7, k8⟩ := pkCells D5
    clear D5 HR hw5
    refine bodyPost_ret (v := .tuple #[.agg #[.bool M.src.v6, .int .u64 M.src.hi, .int .u64 M.src.lo, .bool M.dst.v6, .int .u64 M.dst.hi, .int .u64 M.dst.lo, .int .u8 M.proto, .int .u8 M.ttl, .string M.data], .int .i64 E]) (by simp [results, Try.results13, go_sem, k0, k1, k2, k3, k4, k5, k6, k7, k8]) rfl ⟨rfl, HF.out.2.2⟩
  case mo6 =>
    refine AllReadyH.cons rfl (fun K hK => ?_) AllReadyH.nil
    have HS := Lib.hid hHeld
    clear hHeld
    go_simp
    refine (num_any id 2 _ HX.out.2.2 (by decide) (by decide)).mono ?_
    rintro e w1 ⟨rfl, B1⟩
    rw [← HX.out.2.1]
    simp only []
    refine hK.out _ _ (HS.out.call B1) (fun hHeld => ?_)
    clear hK K HS B1
    try simp only [Act.put, List.getElem_toArray, List.getElem_cons_zero, List.getElem_cons_succ, List.setIfInBounds_toArray, List.set_cons_zero, List.set_cons_succ]
    refine wpAnyH_ready (rs := [1]) (by kernel_rfl) (by simp) ?_
    refine AllReadyH.cons rfl (fun K hK => ?_) AllReadyH.nil
    have HS := Lib.hid hHeld
    clear hHeld
    go_simp
    refine hK.out _ (w1.alloc (.cells #[.int .u8 0] 5)) (HS.out.alloc _) (fun hHeld => ?_)
    have hHeld : HL [(w1.heap.size, .cells #[.int .u8 0] 5), (B, .cells #[.bool v2, .int .u64 h2, .int .u64 l2] 24), (A, .cells #[.bool false, .int .u64 h1, .int .u64 l1] 24)] R 9 w (w1.alloc (.cells #[.int .u8 0] 5)) := HS.out.made _
    refine wpAnyH_strong (S2 := fun u => HL [(w1.heap.size, .cells #[.int .u8 0] 5), (B, .cells #[.bool v2, .int .u64 h2, .int .u64 l2] 24), (A, .cells #[.bool false, .int .u64 h1, .int .u64 l1] 24)] R 9 w u) (fun u hu => hu.tail) _ _ _ _ ?_
    clear hK K HS
    obtain ⟨g1, hgg⟩ : ∃ g, g = w1.heap.size := ⟨_, rfl⟩
    rw [← hgg] at hHeld ⊢
    obtain ⟨v1, hwn⟩ : ∃ x, x = (w1.alloc (.cells #[.int .u8 0] 5)) := ⟨_, rfl⟩
    rw [← hwn] at hHeld ⊢
    clear hgg hwn
    try simp only [Act.put, List.getElem_toArray, List.getElem_cons_zero, List.getElem_cons_succ, List.setIfInBounds_toArray, List.set_cons_zero, List.set_cons_succ]
    refine wpAnyH_take (i := 2) (v := ?_) rfl (by kernel_rfl) (by kernel_rfl) (by kernel_rfl) (fun _ _ _ h => h) (Or.inl ⟨by rfl, ?_⟩) (by assumption) ?_
    rotate_left 1
    · (intro u hSw; have hcv := kind_conv_ft (hSw.head); rw [← HX.out.1] at hcv; clear hSw; go_simp; try (with_reducible rfl))
    try simp only [Act.put, List.getElem_toArray, List.getElem_cons_zero, List.getElem_cons_succ, List.setIfInBounds_toArray, List.set_cons_zero, List.set_cons_succ]
    refine wpAnyH_take (i := 3) (v := ?_) rfl (by kernel_rfl) (by kernel_rfl) (by kernel_rfl) (fun _ _ _ h => h) (Or.inl ⟨by rfl, ?_⟩) (by assumption) ?_
    rotate_left 1
    · (intro u hSw; clear hSw; go_simp; try (with_reducible rfl))
    try simp only [Act.put, List.getElem_toArray, List.getElem_cons_zero, List.getElem_cons_succ, List.setIfInBounds_toArray, List.set_cons_zero, List.set_cons_succ]
    refine wpAnyH_take (i := 7) (v := ?_) rfl (by kernel_rfl) (by kernel_rfl) (by kernel_rfl) (fun _ _ _ h => h) (Or.inl ⟨by rfl, ?_⟩) (by assumption) ?_
    rotate_left 1
    · (intro u hSw; clear hSw; go_simp; try (with_reducible rfl))
    try simp only [Act.put, List.getElem_toArray, List.getElem_cons_zero, List.getElem_cons_succ, List.setIfInBounds_toArray, List.set_cons_zero, List.set_cons_succ]
    refine wpAnyH_take (i := 8) (v := ?_) rfl (by kernel_rfl) (by kernel_rfl) (by kernel_rfl) (fun _ _ _ h => h) (Or.inl ⟨by rfl, ?_⟩) (by assumption) ?_
    rotate_left 1
    · (intro u hSw; clear hSw; go_simp; try (with_reducible rfl))
    try simp only [Act.put, List.getElem_toArray, List.getElem_cons_zero, List.getElem_cons_succ, List.setIfInBounds_toArray, List.set_cons_zero, List.set_cons_succ]
    refine wpAnyH_take (i := 10) (v := ?_) rfl (by kernel_rfl) (by kernel_rfl) (by kernel_rfl) (fun _ _ _ h => h) (Or.inl ⟨by rfl, ?_⟩) (by assumption) ?_
    rotate_left 1
    · (intro u hSw; clear hSw; go_simp; try (with_reducible rfl))
    try simp only [Act.put, List.getElem_toArray, List.getElem_cons_zero, List.getElem_cons_succ, List.setIfInBounds_toArray, List.set_cons_zero, List.set_cons_succ]
    refine wpAnyH_take (i := 11) (v := ?_) rfl (by kernel_rfl) (by kernel_rfl) (by kernel_rfl) (fun _ _ _ h => h) (Or.inl ⟨by rfl, ?_⟩) (by assumption) ?_
    rotate_left 1
    · (intro u hSw; clear hSw; go_simp; try (with_reducible rfl))
    try simp only [Act.put, List.getElem_toArray, List.getElem_cons_zero, List.getElem_cons_succ, List.setIfInBounds_toArray, List.set_cons_zero, List.set_cons_succ]
    have HE := Lib.hid hHeld
    clear hHeld
    refine wpAnyH_done (by kernel_rfl) ?_ _
    try simp only [Act.put, List.getElem_toArray, List.getElem_cons_zero, List.getElem_cons_succ, List.setIfInBounds_toArray, List.set_cons_zero, List.set_cons_succ]
    have HE := Lib.hid HE.out.tail
    have HCC := Lib.hid (And.intro (adCells HE.out.tail.head) (adCells HE.out.head))
    obtain ⟨⟨c0, c1, c2⟩, ⟨d0, d1, d2⟩⟩ := HCC.out
    go_wp2_with fail
    refine (HC.out _).mono ?_
    rintro e w2 ⟨rfl, B2⟩
    simp only []
    have H2 := Lib.hid (HE.out.call B2)
    clear B2 c0 c1 c2 d0 d1 d2
    obtain ⟨cs, hcs, hR⟩ := H2.out.2.1
    have HR0 := Lib.hid (And.intro hcs hR)
    have HR := Lib.hid (H2.out.row (cs := M.cells))
    have HF := Lib.hid (H2.out.store (by simp only [List.mem_cons, List.not_mem_nil, or_false]; rintro x (rfl | rfl); exact HN.out.2.1; exact HN.out.1) HN.out.2.2 (cs := M.cells) rfl)
    clear hcs hR
    go_wp2_with (first | (refine Go.wpList_store_row rfl 30 _ _ rfl R M.cells rfl rfl 30 cs HR0.out.2 info30 HR0.out.1 (pkOne M) ?_))
    obtain ⟨w5, hw5⟩ : ∃ x, x = World.setRow w2 R M.cells := ⟨_, rfl⟩
    rw [← hw5] at HR HF ⊢
    have D5 : w5.heap[R]? = some (.cells #[.bool M.src.v6, .int .u64 M.src.hi, .int .u64 M.src.lo, .bool M.dst.v6, .int .u64 M.dst.hi, .int .u64 M.dst.lo, .int .u8 M.proto, .int .u8 M.ttl, .string M.data] 30) := HR.out
    obtain ⟨k0, k1, k2, k3, k4, k5, k6, k7, k8⟩ := pkCells D5
    clear D5 HR hw5
    refine bodyPost_ret (v := .tuple #[.agg #[.bool M.src.v6, .int .u64 M.src.hi, .int .u64 M.src.lo, .bool M.dst.v6, .int .u64 M.dst.hi, .int .u64 M.dst.lo, .int .u8 M.proto, .int .u8 M.ttl, .string M.data], .int .i64 E]) (by simp [results, Try.results13, go_sem, k0, k1, k2, k3, k4, k5, k6, k7, k8]) rfl ⟨rfl, HF.out.2.2⟩
theorem kind_conv_tf {u : World} {g : Nat} (h : u.heap[g]? = some (.cells #[.int .u8 128] 5)) : (convert 37 9 (.slice (some ⟨g, 0, none⟩) 1 1)).run Try.prog u = .ok (.string ⟨#[UInt8.ofNat 128]⟩) u := by
  refine bytes_conv [128] rfl ?_
  rw [h]
  simp
set_option maxHeartbeats 16000000 in
set_option maxRecDepth 100000 in
theorem refEcho_tf (h1 l1 : Nat) (b : Ad) (id : Nat) (d : ByteArray) (w : World) (ha : (⟨true, h1, l1⟩ : Ad).Ok) (hb : b.Ok) (hf : id < 65536) (hd : d.size ≤ 9000) :
    Calls Try.prog 13 #[.agg #[.bool true, .int .u64 h1, .int .u64 l1], .agg #[.bool b.v6, .int .u64 b.hi, .int .u64 b.lo], .int .u16 id, .bool false, .string d] w fun e w' =>
      e = .returned (.tuple #[(madeP ⟨⟨true, h1, l1⟩, b, 58, 64, echoD 128 id d⟩ 2).val, .int .i64 (mayE ⟨⟨true, h1, l1⟩, b, 58, 64, echoD 128 id d⟩)]) ∧ Below w.heap.size w w' := by
  obtain ⟨v2, h2, l2⟩ := b
  obtain ⟨D, hD⟩ : ∃ D, D = echoD 128 id d := ⟨_, rfl⟩
  have hDs : D.size = 8 + d.size := by rw [hD]; exact echoD_size _ _ _
  rw [← hD]
  have C3 : ∀ u, Calls Try.prog 24 #[.agg #[.bool true, .int .u64 h1, .int .u64 l1, .bool v2, .int .u64 h2, .int .u64 l2, .int .u8 58, .int .u8 64, .string D], .int .i64 2] u fun e w' => (e = .returned (.tuple #[(madeP ⟨⟨true, h1, l1⟩, ⟨v2, h2, l2⟩, 58, 64, D⟩ 2).val, .int .i64 (mayE ⟨⟨true, h1, l1⟩, ⟨v2, h2, l2⟩, 58, 64, D⟩)]) ∧ Below u.heap.size u w') := fun u => refMade_any ⟨⟨true, h1, l1⟩, ⟨v2, h2, l2⟩, 58, 64, D⟩ 2 u ⟨ha, hb, (by decide : 58 < 256), (by decide : 64 < 256)⟩ (show 2 + 2 ≤ D.size by omega) (show D.size ≤ 10000 by omega)
  have HC := Lib.hid C3
  obtain ⟨M, hM⟩ : ∃ M : Pk, M = madeP ⟨⟨true, h1, l1⟩, ⟨v2, h2, l2⟩, 58, 64, D⟩ 2 := ⟨_, rfl⟩
  obtain ⟨E, hE⟩ : ∃ M, M = mayE ⟨⟨true, h1, l1⟩, ⟨v2, h2, l2⟩, 58, 64, D⟩ := ⟨_, rfl⟩
  rw [← hM, ← hE] at HC
  rw [← hM, ← hE]
  clear C3 hM hE ha hb
  obtain ⟨X1, hX1⟩ : ∃ X : ByteArray, X = ⟨#[UInt8.ofNat 128]⟩ := ⟨_, rfl⟩
  obtain ⟨X2, hX2⟩ : ∃ X, X = beS id 2 := ⟨_, rfl⟩
  have z1 : X1.size = 1 := by rw [hX1]; rfl
  have z2 : X2.size = 2 := by rw [hX2]; exact beS_size _ _
  have a0 := addS X1 ⟨#[0, 0, 0]⟩ (by show X1.size + 3 ≤ _; omega)
  obtain ⟨Y, hY⟩ : ∃ Y, Y = X1 ++ ⟨#[0, 0, 0]⟩ := ⟨_, rfl⟩
  rw [← hY] at a0
  have zY : Y.size = 4 := by rw [hY]; simp only [ByteArray.size_append]; show X1.size + 3 = 4; omega
  have a1 := addS Y X2 (by omega)
  have a2 := addS (Y ++ X2) ⟨#[0, 0]⟩ (by rw [ByteArray.size_append]; show Y.size + X2.size + 2 ≤ _; omega)
  have a3 := addS (Y ++ X2 ++ ⟨#[0, 0]⟩) d (by simp only [ByteArray.size_append]; show Y.size + X2.size + 2 + d.size ≤ _; omega)
  have hDX : Y ++ X2 ++ ⟨#[0, 0]⟩ ++ d = D := by rw [hD, hY, hX1, hX2, echo_parts, ← zero2]; rfl
  rw [hDX] at a3
  have q1 := u64N id hf
  have HX := Lib.hid (And.intro hX1 (And.intro hX2 (show id < 18446744073709551616 by omega)))
  have hz : (d.size : Int) ≤ 9000 := by omega
  clear hX1 hX2 z1 z2 hDX hD hDs hd hf hY zY
  have HW0 : HL [(w.heap.size + 1, .cells #[.bool v2, .int .u64 h2, .int .u64 l2] 24), (w.heap.size, .cells #[.bool true, .int .u64 h1, .int .u64 l1] 24)] (w.heap.size + 1 + 1) 9 w (((w.alloc (.cells #[.bool true, .int .u64 h1, .int .u64 l1] 24)).alloc (.cells #[.bool v2, .int .u64 h2, .int .u64 l2] 24)).alloc (.cells #[.bool false, .int .u64 0, .int .u64 0, .bool false, .int .u64 0, .int .u64 0, .int .u8 0, .int .u8 0, .string ⟨#[]⟩] 30)) := HL.two rfl rfl rfl
  have HW := Lib.hid HW0
  clear HW0
  go_enter Try.func13, Try.ntmps13
  go_wp2_with fail
  obtain ⟨w0, hw0⟩ : ∃ x, x = ((w.alloc (.cells #[.bool true, .int .u64 h1, .int .u64 l1] 24)).alloc (.cells #[.bool v2, .int .u64 h2, .int .u64 l2] 24)).alloc (.cells #[.bool false, .int .u64 0, .int .u64 0, .bool false, .int .u64 0, .int .u64 0, .int .u8 0, .int .u8 0, .string ⟨#[]⟩] 30) := ⟨_, rfl⟩
  obtain ⟨R, hR⟩ : ∃ x, x = w.heap.size + 1 + 1 := ⟨_, rfl⟩
  obtain ⟨B, hB⟩ : ∃ x, x = w.heap.size + 1 := ⟨_, rfl⟩
  obtain ⟨A, hA⟩ : ∃ x, x = w.heap.size := ⟨_, rfl⟩
  have HN := Lib.hid (show A ≠ R ∧ B ≠ R ∧ w.heap.size ≤ R by omega)
  have HW : Hid (HL [(B, .cells #[.bool v2, .int .u64 h2, .int .u64 l2] 24), (A, .cells #[.bool true, .int .u64 h1, .int .u64 l1] 24)] R 9 w w0) := by rw [hw0, hR, hB, hA]; exact Lib.hid HW.out
  rw [← hw0, ← hR, ← hB]
  rw [← hA]
  clear hw0 hR hB hA
  refine wp_region_held_drew (S := fun u => HL [(B, .cells #[.bool v2, .int .u64 h2, .int .u64 l2] 24), (A, .cells #[.bool true, .int .u64 h1, .int .u64 l1] 24)] R 9 w u) (by kernel_rfl) HW.out.drew (fun hHeld => ?_)
  refine wpAnyH_take (i := 0) (v := ?_) rfl (by kernel_rfl) (by kernel_rfl) (by kernel_rfl) (fun _ _ _ h => h) (Or.inl ⟨by rfl, ?_⟩) (by assumption) ?_
  rotate_left 1
  · (intro u hSw; clear hSw; go_simp; try (with_reducible rfl))
  try simp only [Act.put, List.getElem_toArray, List.getElem_cons_zero, List.getElem_cons_succ, List.setIfInBounds_toArray, List.set_cons_zero, List.set_cons_succ]
  refine wpAnyH_take (i := 4) (v := ?_) rfl (by kernel_rfl) (by kernel_rfl) (by kernel_rfl) (fun _ _ _ h => h) (Or.inl ⟨by rfl, ?_⟩) (by assumption) ?_
  rotate_left 1
  · (intro u hSw; clear hSw; go_simp; try (with_reducible rfl))
  try simp only [Act.put, List.getElem_toArray, List.getElem_cons_zero, List.getElem_cons_succ, List.setIfInBounds_toArray, List.set_cons_zero, List.set_cons_succ]
  refine wpAnyH_take (i := 5) (v := ?_) rfl (by kernel_rfl) (by kernel_rfl) (by kernel_rfl) (fun _ _ _ h => h) (Or.inl ⟨by rfl, ?_⟩) (by assumption) ?_
  rotate_left 1
  · (intro u hSw; clear hSw; go_simp; try (with_reducible rfl))
  try simp only [Act.put, List.getElem_toArray, List.getElem_cons_zero, List.getElem_cons_succ, List.setIfInBounds_toArray, List.set_cons_zero, List.set_cons_succ]
  refine wpAnyH_take (i := 9) (v := ?_) rfl (by kernel_rfl) (by kernel_rfl) (by kernel_rfl) (fun _ _ _ h => h) (Or.inl ⟨by rfl, ?_⟩) (by assumption) ?_
  rotate_left 1
  · (intro u hSw; clear hSw; go_simp; try (with_reducible rfl))
  try simp only [Act.put, List.getElem_toArray, List.getElem_cons_zero, List.getElem_cons_succ, List.setIfInBounds_toArray, List.set_cons_zero, List.set_cons_succ]
  refine wpAnyH_ready (rs := [1, 6]) (by kernel_rfl) (by simp) ?_
  refine AllReadyH.cons (i := 1) (o := ?o9) ?ho9 (fun K hK => ?st9) ?mo9
  case ho9 => rfl
  case st9 =>
    have HS := Lib.hid hHeld
    clear hHeld
    go_simp
    refine hK.out _ (w0.alloc (.cells #[.int .u8 128] 5)).drew (HS.out.alloc _) (fun hHeld => ?_)
    have hHeld : HL [(w0.heap.size, .cells #[.int .u8 128] 5), (B, .cells #[.bool v2, .int .u64 h2, .int .u64 l2] 24), (A, .cells #[.bool true, .int .u64 h1, .int .u64 l1] 24)] R 9 w (w0.alloc (.cells #[.int .u8 128] 5)).drew := HS.out.made _
    refine wpAnyH_strong (S2 := fun u => HL [(w0.heap.size, .cells #[.int .u8 128] 5), (B, .cells #[.bool v2, .int .u64 h2, .int .u64 l2] 24), (A, .cells #[.bool true, .int .u64 h1, .int .u64 l1] 24)] R 9 w u) (fun u hu => hu.tail) _ _ _ _ ?_
    clear hK K HS
    obtain ⟨g1, hgg⟩ : ∃ g, g = w0.heap.size := ⟨_, rfl⟩
    rw [← hgg] at hHeld ⊢
    obtain ⟨v1, hwn⟩ : ∃ x, x = (w0.alloc (.cells #[.int .u8 128] 5)).drew := ⟨_, rfl⟩
    rw [← hwn] at hHeld ⊢
    clear hgg hwn
    try simp only [Act.put, List.getElem_toArray, List.getElem_cons_zero, List.getElem_cons_succ, List.setIfInBounds_toArray, List.set_cons_zero, List.set_cons_succ]
    refine wpAnyH_take (i := 2) (v := ?_) rfl (by kernel_rfl) (by kernel_rfl) (by kernel_rfl) (fun _ _ _ h => h) (Or.inl ⟨by rfl, ?_⟩) (by assumption) ?_
    rotate_left 1
    · (intro u hSw; have hcv := kind_conv_tf (hSw.head); rw [← HX.out.1] at hcv; clear hSw; go_simp; try (with_reducible rfl))
    try simp only [Act.put, List.getElem_toArray, List.getElem_cons_zero, List.getElem_cons_succ, List.setIfInBounds_toArray, List.set_cons_zero, List.set_cons_succ]
    refine wpAnyH_take (i := 3) (v := ?_) rfl (by kernel_rfl) (by kernel_rfl) (by kernel_rfl) (fun _ _ _ h => h) (Or.inl ⟨by rfl, ?_⟩) (by assumption) ?_
    rotate_left 1
    · (intro u hSw; clear hSw; go_simp; try (with_reducible rfl))
    try simp only [Act.put, List.getElem_toArray, List.getElem_cons_zero, List.getElem_cons_succ, List.setIfInBounds_toArray, List.set_cons_zero, List.set_cons_succ]
    refine wpAnyH_ready (rs := [6]) (by kernel_rfl) (by simp) ?_
    refine AllReadyH.cons rfl (fun K hK => ?_) AllReadyH.nil
    have HS := Lib.hid hHeld
    clear hHeld
    go_simp
    refine (num_any id 2 _ HX.out.2.2 (by decide) (by decide)).mono ?_
    rintro e w1 ⟨rfl, B1⟩
    rw [← HX.out.2.1]
    simp only []
    refine hK.out _ _ (HS.out.call B1) (fun hHeld => ?_)
    clear hK K HS B1
    try simp only [Act.put, List.getElem_toArray, List.getElem_cons_zero, List.getElem_cons_succ, List.setIfInBounds_toArray, List.set_cons_zero, List.set_cons_succ]
    refine wpAnyH_take (i := 7) (v := ?_) rfl (by kernel_rfl) (by kernel_rfl) (by kernel_rfl) (fun _ _ _ h => h) (Or.inl ⟨by rfl, ?_⟩) (by assumption) ?_
    rotate_left 1
    · (intro u hSw; clear hSw; go_simp; try (with_reducible rfl))
    try simp only [Act.put, List.getElem_toArray, List.getElem_cons_zero, List.getElem_cons_succ, List.setIfInBounds_toArray, List.set_cons_zero, List.set_cons_succ]
    refine wpAnyH_take (i := 8) (v := ?_) rfl (by kernel_rfl) (by kernel_rfl) (by kernel_rfl) (fun _ _ _ h => h) (Or.inl ⟨by rfl, ?_⟩) (by assumption) ?_
    rotate_left 1
    · (intro u hSw; clear hSw; go_simp; try (with_reducible rfl))
    try simp only [Act.put, List.getElem_toArray, List.getElem_cons_zero, List.getElem_cons_succ, List.setIfInBounds_toArray, List.set_cons_zero, List.set_cons_succ]
    refine wpAnyH_take (i := 10) (v := ?_) rfl (by kernel_rfl) (by kernel_rfl) (by kernel_rfl) (fun _ _ _ h => h) (Or.inl ⟨by rfl, ?_⟩) (by assumption) ?_
    rotate_left 1
    · (intro u hSw; clear hSw; go_simp; try (with_reducible rfl))
    try simp only [Act.put, List.getElem_toArray, List.getElem_cons_zero, List.getElem_cons_succ, List.setIfInBounds_toArray, List.set_cons_zero, List.set_cons_succ]
    refine wpAnyH_take (i := 11) (v := ?_) rfl (by kernel_rfl) (by kernel_rfl) (by kernel_rfl) (fun _ _ _ h => h) (Or.inl ⟨by rfl, ?_⟩) (by assumption) ?_
    rotate_left 1
    · (intro u hSw; clear hSw; go_simp; try (with_reducible rfl))
    try simp only [Act.put, List.getElem_toArray, List.getElem_cons_zero, List.getElem_cons_succ, List.setIfInBounds_toArray, List.set_cons_zero, List.set_cons_succ]
    have HE := Lib.hid hHeld
    clear hHeld
    refine wpAnyH_done (by kernel_rfl) ?_ _
    try simp only [Act.put, List.getElem_toArray, List.getElem_cons_zero, List.getElem_cons_succ, List.setIfInBounds_toArray, List.set_cons_zero, List.set_cons_succ]
    have HE := Lib.hid HE.out.tail
    have HCC := Lib.hid (And.intro (adCells HE.out.tail.head) (adCells HE.out.head))
    obtain ⟨⟨c0, c1, c2⟩, ⟨d0, d1, d2⟩⟩ := HCC.out
    go_wp2_with fail
    refine (HC.out _).mono ?_
    rintro e w2 ⟨rfl, B2⟩
    simp only []
    have H2 := Lib.hid (HE.out.call B2)
    clear B2 c0 c1 c2 d0 d1 d2
    obtain ⟨cs, hcs, hR⟩ := H2.out.2.1
    have HR0 := Lib.hid (And.intro hcs hR)
    have HR := Lib.hid (H2.out.row (cs := M.cells))
    have HF := Lib.hid (H2.out.store (by simp only [List.mem_cons, List.not_mem_nil, or_false]; rintro x (rfl | rfl); exact HN.out.2.1; exact HN.out.1) HN.out.2.2 (cs := M.cells) rfl)
    clear hcs hR
    go_wp2_with (first | (refine Go.wpList_store_row rfl 30 _ _ rfl R M.cells rfl rfl 30 cs HR0.out.2 info30 HR0.out.1 (pkOne M) ?_))
    obtain ⟨w5, hw5⟩ : ∃ x, x = World.setRow w2 R M.cells := ⟨_, rfl⟩
    rw [← hw5] at HR HF ⊢
    have D5 : w5.heap[R]? = some (.cells #[.bool M.src.v6, .int .u64 M.src.hi, .int .u64 M.src.lo, .bool M.dst.v6, .int .u64 M.dst.hi, .int .u64 M.dst.lo, .int .u8 M.proto, .int .u8 M.ttl, .string M.data] 30) := HR.out
    obtain ⟨k0, k1, k2, k3, k4, k5, k6, k7, k8⟩ := pkCells D5
    clear D5 HR hw5
    refine bodyPost_ret (v := .tuple #[.agg #[.bool M.src.v6, .int .u64 M.src.hi, .int .u64 M.src.lo, .bool M.dst.v6, .int .u64 M.dst.hi, .int .u64 M.dst.lo, .int .u8 M.proto, .int .u8 M.ttl, .string M.data], .int .i64 E]) (by simp [results, Try.results13, go_sem, k0, k1, k2, k3, k4, k5, k6, k7, k8]) rfl ⟨rfl, HF.out.2.2⟩
  case mo9 =>
    refine AllReadyH.cons rfl (fun K hK => ?_) AllReadyH.nil
    have HS := Lib.hid hHeld
    clear hHeld
    go_simp
    refine (num_any id 2 _ HX.out.2.2 (by decide) (by decide)).mono ?_
    rintro e w1 ⟨rfl, B1⟩
    rw [← HX.out.2.1]
    simp only []
    refine hK.out _ _ (HS.out.call B1) (fun hHeld => ?_)
    clear hK K HS B1
    try simp only [Act.put, List.getElem_toArray, List.getElem_cons_zero, List.getElem_cons_succ, List.setIfInBounds_toArray, List.set_cons_zero, List.set_cons_succ]
    refine wpAnyH_ready (rs := [1]) (by kernel_rfl) (by simp) ?_
    refine AllReadyH.cons rfl (fun K hK => ?_) AllReadyH.nil
    have HS := Lib.hid hHeld
    clear hHeld
    go_simp
    refine hK.out _ (w1.alloc (.cells #[.int .u8 128] 5)) (HS.out.alloc _) (fun hHeld => ?_)
    have hHeld : HL [(w1.heap.size, .cells #[.int .u8 128] 5), (B, .cells #[.bool v2, .int .u64 h2, .int .u64 l2] 24), (A, .cells #[.bool true, .int .u64 h1, .int .u64 l1] 24)] R 9 w (w1.alloc (.cells #[.int .u8 128] 5)) := HS.out.made _
    refine wpAnyH_strong (S2 := fun u => HL [(w1.heap.size, .cells #[.int .u8 128] 5), (B, .cells #[.bool v2, .int .u64 h2, .int .u64 l2] 24), (A, .cells #[.bool true, .int .u64 h1, .int .u64 l1] 24)] R 9 w u) (fun u hu => hu.tail) _ _ _ _ ?_
    clear hK K HS
    obtain ⟨g1, hgg⟩ : ∃ g, g = w1.heap.size := ⟨_, rfl⟩
    rw [← hgg] at hHeld ⊢
    obtain ⟨v1, hwn⟩ : ∃ x, x = (w1.alloc (.cells #[.int .u8 128] 5)) := ⟨_, rfl⟩
    rw [← hwn] at hHeld ⊢
    clear hgg hwn
    try simp only [Act.put, List.getElem_toArray, List.getElem_cons_zero, List.getElem_cons_succ, List.setIfInBounds_toArray, List.set_cons_zero, List.set_cons_succ]
    refine wpAnyH_take (i := 2) (v := ?_) rfl (by kernel_rfl) (by kernel_rfl) (by kernel_rfl) (fun _ _ _ h => h) (Or.inl ⟨by rfl, ?_⟩) (by assumption) ?_
    rotate_left 1
    · (intro u hSw; have hcv := kind_conv_tf (hSw.head); rw [← HX.out.1] at hcv; clear hSw; go_simp; try (with_reducible rfl))
    try simp only [Act.put, List.getElem_toArray, List.getElem_cons_zero, List.getElem_cons_succ, List.setIfInBounds_toArray, List.set_cons_zero, List.set_cons_succ]
    refine wpAnyH_take (i := 3) (v := ?_) rfl (by kernel_rfl) (by kernel_rfl) (by kernel_rfl) (fun _ _ _ h => h) (Or.inl ⟨by rfl, ?_⟩) (by assumption) ?_
    rotate_left 1
    · (intro u hSw; clear hSw; go_simp; try (with_reducible rfl))
    try simp only [Act.put, List.getElem_toArray, List.getElem_cons_zero, List.getElem_cons_succ, List.setIfInBounds_toArray, List.set_cons_zero, List.set_cons_succ]
    refine wpAnyH_take (i := 7) (v := ?_) rfl (by kernel_rfl) (by kernel_rfl) (by kernel_rfl) (fun _ _ _ h => h) (Or.inl ⟨by rfl, ?_⟩) (by assumption) ?_
    rotate_left 1
    · (intro u hSw; clear hSw; go_simp; try (with_reducible rfl))
    try simp only [Act.put, List.getElem_toArray, List.getElem_cons_zero, List.getElem_cons_succ, List.setIfInBounds_toArray, List.set_cons_zero, List.set_cons_succ]
    refine wpAnyH_take (i := 8) (v := ?_) rfl (by kernel_rfl) (by kernel_rfl) (by kernel_rfl) (fun _ _ _ h => h) (Or.inl ⟨by rfl, ?_⟩) (by assumption) ?_
    rotate_left 1
    · (intro u hSw; clear hSw; go_simp; try (with_reducible rfl))
    try simp only [Act.put, List.getElem_toArray, List.getElem_cons_zero, List.getElem_cons_succ, List.setIfInBounds_toArray, List.set_cons_zero, List.set_cons_succ]
    refine wpAnyH_take (i := 10) (v := ?_) rfl (by kernel_rfl) (by kernel_rfl) (by kernel_rfl) (fun _ _ _ h => h) (Or.inl ⟨by rfl, ?_⟩) (by assumption) ?_
    rotate_left 1
    · (intro u hSw; clear hSw; go_simp; try (with_reducible rfl))
    try simp only [Act.put, List.getElem_toArray, List.getElem_cons_zero, List.getElem_cons_succ, List.setIfInBounds_toArray, List.set_cons_zero, List.set_cons_succ]
    refine wpAnyH_take (i := 11) (v := ?_) rfl (by kernel_rfl) (by kernel_rfl) (by kernel_rfl) (fun _ _ _ h => h) (Or.inl ⟨by rfl, ?_⟩) (by assumption) ?_
    rotate_left 1
    · (intro u hSw; clear hSw; go_simp; try (with_reducible rfl))
    try simp only [Act.put, List.getElem_toArray, List.getElem_cons_zero, List.getElem_cons_succ, List.setIfInBounds_toArray, List.set_cons_zero, List.set_cons_succ]
    have HE := Lib.hid hHeld
    clear hHeld
    refine wpAnyH_done (by kernel_rfl) ?_ _
    try simp only [Act.put, List.getElem_toArray, List.getElem_cons_zero, List.getElem_cons_succ, List.setIfInBounds_toArray, List.set_cons_zero, List.set_cons_succ]
    have HE := Lib.hid HE.out.tail
    have HCC := Lib.hid (And.intro (adCells HE.out.tail.head) (adCells HE.out.head))
    obtain ⟨⟨c0, c1, c2⟩, ⟨d0, d1, d2⟩⟩ := HCC.out
    go_wp2_with fail
    refine (HC.out _).mono ?_
    rintro e w2 ⟨rfl, B2⟩
    simp only []
    have H2 := Lib.hid (HE.out.call B2)
    clear B2 c0 c1 c2 d0 d1 d2
    obtain ⟨cs, hcs, hR⟩ := H2.out.2.1
    have HR0 := Lib.hid (And.intro hcs hR)
    have HR := Lib.hid (H2.out.row (cs := M.cells))
    have HF := Lib.hid (H2.out.store (by simp only [List.mem_cons, List.not_mem_nil, or_false]; rintro x (rfl | rfl); exact HN.out.2.1; exact HN.out.1) HN.out.2.2 (cs := M.cells) rfl)
    clear hcs hR
    go_wp2_with (first | (refine Go.wpList_store_row rfl 30 _ _ rfl R M.cells rfl rfl 30 cs HR0.out.2 info30 HR0.out.1 (pkOne M) ?_))
    obtain ⟨w5, hw5⟩ : ∃ x, x = World.setRow w2 R M.cells := ⟨_, rfl⟩
    rw [← hw5] at HR HF ⊢
    have D5 : w5.heap[R]? = some (.cells #[.bool M.src.v6, .int .u64 M.src.hi, .int .u64 M.src.lo, .bool M.dst.v6, .int .u64 M.dst.hi, .int .u64 M.dst.lo, .int .u8 M.proto, .int .u8 M.ttl, .string M.data] 30) := HR.out
    obtain ⟨k0, k1, k2, k3, k4, k5, k6, k7, k8⟩ := pkCells D5
    clear D5 HR hw5
    refine bodyPost_ret (v := .tuple #[.agg #[.bool M.src.v6, .int .u64 M.src.hi, .int .u64 M.src.lo, .bool M.dst.v6, .int .u64 M.dst.hi, .int .u64 M.dst.lo, .int .u8 M.proto, .int .u8 M.ttl, .string M.data], .int .i64 E]) (by simp [results, Try.results13, go_sem, k0, k1, k2, k3, k4, k5, k6, k7, k8]) rfl ⟨rfl, HF.out.2.2⟩
theorem kind_conv_tt {u : World} {g : Nat} (h : u.heap[g]? = some (.cells #[.int .u8 129] 5)) : (convert 37 9 (.slice (some ⟨g, 0, none⟩) 1 1)).run Try.prog u = .ok (.string ⟨#[UInt8.ofNat 129]⟩) u := by
  refine bytes_conv [129] rfl ?_
  rw [h]
  simp
set_option maxHeartbeats 16000000 in
set_option maxRecDepth 100000 in
theorem refEcho_tt (h1 l1 : Nat) (b : Ad) (id : Nat) (d : ByteArray) (w : World) (ha : (⟨true, h1, l1⟩ : Ad).Ok) (hb : b.Ok) (hf : id < 65536) (hd : d.size ≤ 9000) :
    Calls Try.prog 13 #[.agg #[.bool true, .int .u64 h1, .int .u64 l1], .agg #[.bool b.v6, .int .u64 b.hi, .int .u64 b.lo], .int .u16 id, .bool true, .string d] w fun e w' =>
      e = .returned (.tuple #[(madeP ⟨⟨true, h1, l1⟩, b, 58, 64, echoD 129 id d⟩ 2).val, .int .i64 (mayE ⟨⟨true, h1, l1⟩, b, 58, 64, echoD 129 id d⟩)]) ∧ Below w.heap.size w w' := by
  obtain ⟨v2, h2, l2⟩ := b
  obtain ⟨D, hD⟩ : ∃ D, D = echoD 129 id d := ⟨_, rfl⟩
  have hDs : D.size = 8 + d.size := by rw [hD]; exact echoD_size _ _ _
  rw [← hD]
  have C3 : ∀ u, Calls Try.prog 24 #[.agg #[.bool true, .int .u64 h1, .int .u64 l1, .bool v2, .int .u64 h2, .int .u64 l2, .int .u8 58, .int .u8 64, .string D], .int .i64 2] u fun e w' => (e = .returned (.tuple #[(madeP ⟨⟨true, h1, l1⟩, ⟨v2, h2, l2⟩, 58, 64, D⟩ 2).val, .int .i64 (mayE ⟨⟨true, h1, l1⟩, ⟨v2, h2, l2⟩, 58, 64, D⟩)]) ∧ Below u.heap.size u w') := fun u => refMade_any ⟨⟨true, h1, l1⟩, ⟨v2, h2, l2⟩, 58, 64, D⟩ 2 u ⟨ha, hb, (by decide : 58 < 256), (by decide : 64 < 256)⟩ (show 2 + 2 ≤ D.size by omega) (show D.size ≤ 10000 by omega)
  have HC := Lib.hid C3
  obtain ⟨M, hM⟩ : ∃ M : Pk, M = madeP ⟨⟨true, h1, l1⟩, ⟨v2, h2, l2⟩, 58, 64, D⟩ 2 := ⟨_, rfl⟩
  obtain ⟨E, hE⟩ : ∃ M, M = mayE ⟨⟨true, h1, l1⟩, ⟨v2, h2, l2⟩, 58, 64, D⟩ := ⟨_, rfl⟩
  rw [← hM, ← hE] at HC
  rw [← hM, ← hE]
  clear C3 hM hE ha hb
  obtain ⟨X1, hX1⟩ : ∃ X : ByteArray, X = ⟨#[UInt8.ofNat 129]⟩ := ⟨_, rfl⟩
  obtain ⟨X2, hX2⟩ : ∃ X, X = beS id 2 := ⟨_, rfl⟩
  have z1 : X1.size = 1 := by rw [hX1]; rfl
  have z2 : X2.size = 2 := by rw [hX2]; exact beS_size _ _
  have a0 := addS X1 ⟨#[0, 0, 0]⟩ (by show X1.size + 3 ≤ _; omega)
  obtain ⟨Y, hY⟩ : ∃ Y, Y = X1 ++ ⟨#[0, 0, 0]⟩ := ⟨_, rfl⟩
  rw [← hY] at a0
  have zY : Y.size = 4 := by rw [hY]; simp only [ByteArray.size_append]; show X1.size + 3 = 4; omega
  have a1 := addS Y X2 (by omega)
  have a2 := addS (Y ++ X2) ⟨#[0, 0]⟩ (by rw [ByteArray.size_append]; show Y.size + X2.size + 2 ≤ _; omega)
  have a3 := addS (Y ++ X2 ++ ⟨#[0, 0]⟩) d (by simp only [ByteArray.size_append]; show Y.size + X2.size + 2 + d.size ≤ _; omega)
  have hDX : Y ++ X2 ++ ⟨#[0, 0]⟩ ++ d = D := by rw [hD, hY, hX1, hX2, echo_parts, ← zero2]; rfl
  rw [hDX] at a3
  have q1 := u64N id hf
  have HX := Lib.hid (And.intro hX1 (And.intro hX2 (show id < 18446744073709551616 by omega)))
  have hz : (d.size : Int) ≤ 9000 := by omega
  clear hX1 hX2 z1 z2 hDX hD hDs hd hf hY zY
  have HW0 : HL [(w.heap.size + 1, .cells #[.bool v2, .int .u64 h2, .int .u64 l2] 24), (w.heap.size, .cells #[.bool true, .int .u64 h1, .int .u64 l1] 24)] (w.heap.size + 1 + 1) 9 w (((w.alloc (.cells #[.bool true, .int .u64 h1, .int .u64 l1] 24)).alloc (.cells #[.bool v2, .int .u64 h2, .int .u64 l2] 24)).alloc (.cells #[.bool false, .int .u64 0, .int .u64 0, .bool false, .int .u64 0, .int .u64 0, .int .u8 0, .int .u8 0, .string ⟨#[]⟩] 30)) := HL.two rfl rfl rfl
  have HW := Lib.hid HW0
  clear HW0
  go_enter Try.func13, Try.ntmps13
  go_wp2_with fail
  obtain ⟨w0, hw0⟩ : ∃ x, x = ((w.alloc (.cells #[.bool true, .int .u64 h1, .int .u64 l1] 24)).alloc (.cells #[.bool v2, .int .u64 h2, .int .u64 l2] 24)).alloc (.cells #[.bool false, .int .u64 0, .int .u64 0, .bool false, .int .u64 0, .int .u64 0, .int .u8 0, .int .u8 0, .string ⟨#[]⟩] 30) := ⟨_, rfl⟩
  obtain ⟨R, hR⟩ : ∃ x, x = w.heap.size + 1 + 1 := ⟨_, rfl⟩
  obtain ⟨B, hB⟩ : ∃ x, x = w.heap.size + 1 := ⟨_, rfl⟩
  obtain ⟨A, hA⟩ : ∃ x, x = w.heap.size := ⟨_, rfl⟩
  have HN := Lib.hid (show A ≠ R ∧ B ≠ R ∧ w.heap.size ≤ R by omega)
  have HW : Hid (HL [(B, .cells #[.bool v2, .int .u64 h2, .int .u64 l2] 24), (A, .cells #[.bool true, .int .u64 h1, .int .u64 l1] 24)] R 9 w w0) := by rw [hw0, hR, hB, hA]; exact Lib.hid HW.out
  rw [← hw0, ← hR, ← hB]
  rw [← hA]
  clear hw0 hR hB hA
  refine wp_region_held_drew (S := fun u => HL [(B, .cells #[.bool v2, .int .u64 h2, .int .u64 l2] 24), (A, .cells #[.bool true, .int .u64 h1, .int .u64 l1] 24)] R 9 w u) (by kernel_rfl) HW.out.drew (fun hHeld => ?_)
  refine wpAnyH_take (i := 0) (v := ?_) rfl (by kernel_rfl) (by kernel_rfl) (by kernel_rfl) (fun _ _ _ h => h) (Or.inl ⟨by rfl, ?_⟩) (by assumption) ?_
  rotate_left 1
  · (intro u hSw; clear hSw; go_simp; try (with_reducible rfl))
  try simp only [Act.put, List.getElem_toArray, List.getElem_cons_zero, List.getElem_cons_succ, List.setIfInBounds_toArray, List.set_cons_zero, List.set_cons_succ]
  refine wpAnyH_take (i := 4) (v := ?_) rfl (by kernel_rfl) (by kernel_rfl) (by kernel_rfl) (fun _ _ _ h => h) (Or.inl ⟨by rfl, ?_⟩) (by assumption) ?_
  rotate_left 1
  · (intro u hSw; clear hSw; go_simp; try (with_reducible rfl))
  try simp only [Act.put, List.getElem_toArray, List.getElem_cons_zero, List.getElem_cons_succ, List.setIfInBounds_toArray, List.set_cons_zero, List.set_cons_succ]
  refine wpAnyH_take (i := 5) (v := ?_) rfl (by kernel_rfl) (by kernel_rfl) (by kernel_rfl) (fun _ _ _ h => h) (Or.inl ⟨by rfl, ?_⟩) (by assumption) ?_
  rotate_left 1
  · (intro u hSw; clear hSw; go_simp; try (with_reducible rfl))
  try simp only [Act.put, List.getElem_toArray, List.getElem_cons_zero, List.getElem_cons_succ, List.setIfInBounds_toArray, List.set_cons_zero, List.set_cons_succ]
  refine wpAnyH_take (i := 9) (v := ?_) rfl (by kernel_rfl) (by kernel_rfl) (by kernel_rfl) (fun _ _ _ h => h) (Or.inl ⟨by rfl, ?_⟩) (by assumption) ?_
  rotate_left 1
  · (intro u hSw; clear hSw; go_simp; try (with_reducible rfl))
  try simp only [Act.put, List.getElem_toArray, List.getElem_cons_zero, List.getElem_cons_succ, List.setIfInBounds_toArray, List.set_cons_zero, List.set_cons_succ]
  refine wpAnyH_ready (rs := [1, 6]) (by kernel_rfl) (by simp) ?_
  refine AllReadyH.cons (i := 1) (o := ?o12) ?ho12 (fun K hK => ?st12) ?mo12
  case ho12 => rfl
  case st12 =>
    have HS := Lib.hid hHeld
    clear hHeld
    go_simp
    refine hK.out _ (w0.alloc (.cells #[.int .u8 129] 5)).drew (HS.out.alloc _) (fun hHeld => ?_)
    have hHeld : HL [(w0.heap.size, .cells #[.int .u8 129] 5), (B, .cells #[.bool v2, .int .u64 h2, .int .u64 l2] 24), (A, .cells #[.bool true, .int .u64 h1, .int .u64 l1] 24)] R 9 w (w0.alloc (.cells #[.int .u8 129] 5)).drew := HS.out.made _
    refine wpAnyH_strong (S2 := fun u => HL [(w0.heap.size, .cells #[.int .u8 129] 5), (B, .cells #[.bool v2, .int .u64 h2, .int .u64 l2] 24), (A, .cells #[.bool true, .int .u64 h1, .int .u64 l1] 24)] R 9 w u) (fun u hu => hu.tail) _ _ _ _ ?_
    clear hK K HS
    obtain ⟨g1, hgg⟩ : ∃ g, g = w0.heap.size := ⟨_, rfl⟩
    rw [← hgg] at hHeld ⊢
    obtain ⟨v1, hwn⟩ : ∃ x, x = (w0.alloc (.cells #[.int .u8 129] 5)).drew := ⟨_, rfl⟩
    rw [← hwn] at hHeld ⊢
    clear hgg hwn
    try simp only [Act.put, List.getElem_toArray, List.getElem_cons_zero, List.getElem_cons_succ, List.setIfInBounds_toArray, List.set_cons_zero, List.set_cons_succ]
    refine wpAnyH_take (i := 2) (v := ?_) rfl (by kernel_rfl) (by kernel_rfl) (by kernel_rfl) (fun _ _ _ h => h) (Or.inl ⟨by rfl, ?_⟩) (by assumption) ?_
    rotate_left 1
    · (intro u hSw; have hcv := kind_conv_tt (hSw.head); rw [← HX.out.1] at hcv; clear hSw; go_simp; try (with_reducible rfl))
    try simp only [Act.put, List.getElem_toArray, List.getElem_cons_zero, List.getElem_cons_succ, List.setIfInBounds_toArray, List.set_cons_zero, List.set_cons_succ]
    refine wpAnyH_take (i := 3) (v := ?_) rfl (by kernel_rfl) (by kernel_rfl) (by kernel_rfl) (fun _ _ _ h => h) (Or.inl ⟨by rfl, ?_⟩) (by assumption) ?_
    rotate_left 1
    · (intro u hSw; clear hSw; go_simp; try (with_reducible rfl))
    try simp only [Act.put, List.getElem_toArray, List.getElem_cons_zero, List.getElem_cons_succ, List.setIfInBounds_toArray, List.set_cons_zero, List.set_cons_succ]
    refine wpAnyH_ready (rs := [6]) (by kernel_rfl) (by simp) ?_
    refine AllReadyH.cons rfl (fun K hK => ?_) AllReadyH.nil
    have HS := Lib.hid hHeld
    clear hHeld
    go_simp
    refine (num_any id 2 _ HX.out.2.2 (by decide) (by decide)).mono ?_
    rintro e w1 ⟨rfl, B1⟩
    rw [← HX.out.2.1]
    simp only []
    refine hK.out _ _ (HS.out.call B1) (fun hHeld => ?_)
    clear hK K HS B1
    try simp only [Act.put, List.getElem_toArray, List.getElem_cons_zero, List.getElem_cons_succ, List.setIfInBounds_toArray, List.set_cons_zero, List.set_cons_succ]
    refine wpAnyH_take (i := 7) (v := ?_) rfl (by kernel_rfl) (by kernel_rfl) (by kernel_rfl) (fun _ _ _ h => h) (Or.inl ⟨by rfl, ?_⟩) (by assumption) ?_
    rotate_left 1
    · (intro u hSw; clear hSw; go_simp; try (with_reducible rfl))
    try simp only [Act.put, List.getElem_toArray, List.getElem_cons_zero, List.getElem_cons_succ, List.setIfInBounds_toArray, List.set_cons_zero, List.set_cons_succ]
    refine wpAnyH_take (i := 8) (v := ?_) rfl (by kernel_rfl) (by kernel_rfl) (by kernel_rfl) (fun _ _ _ h => h) (Or.inl ⟨by rfl, ?_⟩) (by assumption) ?_
    rotate_left 1
    · (intro u hSw; clear hSw; go_simp; try (with_reducible rfl))
    try simp only [Act.put, List.getElem_toArray, List.getElem_cons_zero, List.getElem_cons_succ, List.setIfInBounds_toArray, List.set_cons_zero, List.set_cons_succ]
    refine wpAnyH_take (i := 10) (v := ?_) rfl (by kernel_rfl) (by kernel_rfl) (by kernel_rfl) (fun _ _ _ h => h) (Or.inl ⟨by rfl, ?_⟩) (by assumption) ?_
    rotate_left 1
    · (intro u hSw; clear hSw; go_simp; try (with_reducible rfl))
    try simp only [Act.put, List.getElem_toArray, List.getElem_cons_zero, List.getElem_cons_succ, List.setIfInBounds_toArray, List.set_cons_zero, List.set_cons_succ]
    refine wpAnyH_take (i := 11) (v := ?_) rfl (by kernel_rfl) (by kernel_rfl) (by kernel_rfl) (fun _ _ _ h => h) (Or.inl ⟨by rfl, ?_⟩) (by assumption) ?_
    rotate_left 1
    · (intro u hSw; clear hSw; go_simp; try (with_reducible rfl))
    try simp only [Act.put, List.getElem_toArray, List.getElem_cons_zero, List.getElem_cons_succ, List.setIfInBounds_toArray, List.set_cons_zero, List.set_cons_succ]
    have HE := Lib.hid hHeld
    clear hHeld
    refine wpAnyH_done (by kernel_rfl) ?_ _
    try simp only [Act.put, List.getElem_toArray, List.getElem_cons_zero, List.getElem_cons_succ, List.setIfInBounds_toArray, List.set_cons_zero, List.set_cons_succ]
    have HE := Lib.hid HE.out.tail
    have HCC := Lib.hid (And.intro (adCells HE.out.tail.head) (adCells HE.out.head))
    obtain ⟨⟨c0, c1, c2⟩, ⟨d0, d1, d2⟩⟩ := HCC.out
    go_wp2_with fail
    refine (HC.out _).mono ?_
    rintro e w2 ⟨rfl, B2⟩
    simp only []
    have H2 := Lib.hid (HE.out.call B2)
    clear B2 c0 c1 c2 d0 d1 d2
    obtain ⟨cs, hcs, hR⟩ := H2.out.2.1
    have HR0 := Lib.hid (And.intro hcs hR)
    have HR := Lib.hid (H2.out.row (cs := M.cells))
    have HF := Lib.hid (H2.out.store (by simp only [List.mem_cons, List.not_mem_nil, or_false]; rintro x (rfl | rfl); exact HN.out.2.1; exact HN.out.1) HN.out.2.2 (cs := M.cells) rfl)
    clear hcs hR
    go_wp2_with (first | (refine Go.wpList_store_row rfl 30 _ _ rfl R M.cells rfl rfl 30 cs HR0.out.2 info30 HR0.out.1 (pkOne M) ?_))
    obtain ⟨w5, hw5⟩ : ∃ x, x = World.setRow w2 R M.cells := ⟨_, rfl⟩
    rw [← hw5] at HR HF ⊢
    have D5 : w5.heap[R]? = some (.cells #[.bool M.src.v6, .int .u64 M.src.hi, .int .u64 M.src.lo, .bool M.dst.v6, .int .u64 M.dst.hi, .int .u64 M.dst.lo, .int .u8 M.proto, .int .u8 M.ttl, .string M.data] 30) := HR.out
    obtain ⟨k0, k1, k2, k3, k4, k5, k6, k7, k8⟩ := pkCells D5
    clear D5 HR hw5
    refine bodyPost_ret (v := .tuple #[.agg #[.bool M.src.v6, .int .u64 M.src.hi, .int .u64 M.src.lo, .bool M.dst.v6, .int .u64 M.dst.hi, .int .u64 M.dst.lo, .int .u8 M.proto, .int .u8 M.ttl, .string M.data], .int .i64 E]) (by simp [results, Try.results13, go_sem, k0, k1, k2, k3, k4, k5, k6, k7, k8]) rfl ⟨rfl, HF.out.2.2⟩
  case mo12 =>
    refine AllReadyH.cons rfl (fun K hK => ?_) AllReadyH.nil
    have HS := Lib.hid hHeld
    clear hHeld
    go_simp
    refine (num_any id 2 _ HX.out.2.2 (by decide) (by decide)).mono ?_
    rintro e w1 ⟨rfl, B1⟩
    rw [← HX.out.2.1]
    simp only []
    refine hK.out _ _ (HS.out.call B1) (fun hHeld => ?_)
    clear hK K HS B1
    try simp only [Act.put, List.getElem_toArray, List.getElem_cons_zero, List.getElem_cons_succ, List.setIfInBounds_toArray, List.set_cons_zero, List.set_cons_succ]
    refine wpAnyH_ready (rs := [1]) (by kernel_rfl) (by simp) ?_
    refine AllReadyH.cons rfl (fun K hK => ?_) AllReadyH.nil
    have HS := Lib.hid hHeld
    clear hHeld
    go_simp
    refine hK.out _ (w1.alloc (.cells #[.int .u8 129] 5)) (HS.out.alloc _) (fun hHeld => ?_)
    have hHeld : HL [(w1.heap.size, .cells #[.int .u8 129] 5), (B, .cells #[.bool v2, .int .u64 h2, .int .u64 l2] 24), (A, .cells #[.bool true, .int .u64 h1, .int .u64 l1] 24)] R 9 w (w1.alloc (.cells #[.int .u8 129] 5)) := HS.out.made _
    refine wpAnyH_strong (S2 := fun u => HL [(w1.heap.size, .cells #[.int .u8 129] 5), (B, .cells #[.bool v2, .int .u64 h2, .int .u64 l2] 24), (A, .cells #[.bool true, .int .u64 h1, .int .u64 l1] 24)] R 9 w u) (fun u hu => hu.tail) _ _ _ _ ?_
    clear hK K HS
    obtain ⟨g1, hgg⟩ : ∃ g, g = w1.heap.size := ⟨_, rfl⟩
    rw [← hgg] at hHeld ⊢
    obtain ⟨v1, hwn⟩ : ∃ x, x = (w1.alloc (.cells #[.int .u8 129] 5)) := ⟨_, rfl⟩
    rw [← hwn] at hHeld ⊢
    clear hgg hwn
    try simp only [Act.put, List.getElem_toArray, List.getElem_cons_zero, List.getElem_cons_succ, List.setIfInBounds_toArray, List.set_cons_zero, List.set_cons_succ]
    refine wpAnyH_take (i := 2) (v := ?_) rfl (by kernel_rfl) (by kernel_rfl) (by kernel_rfl) (fun _ _ _ h => h) (Or.inl ⟨by rfl, ?_⟩) (by assumption) ?_
    rotate_left 1
    · (intro u hSw; have hcv := kind_conv_tt (hSw.head); rw [← HX.out.1] at hcv; clear hSw; go_simp; try (with_reducible rfl))
    try simp only [Act.put, List.getElem_toArray, List.getElem_cons_zero, List.getElem_cons_succ, List.setIfInBounds_toArray, List.set_cons_zero, List.set_cons_succ]
    refine wpAnyH_take (i := 3) (v := ?_) rfl (by kernel_rfl) (by kernel_rfl) (by kernel_rfl) (fun _ _ _ h => h) (Or.inl ⟨by rfl, ?_⟩) (by assumption) ?_
    rotate_left 1
    · (intro u hSw; clear hSw; go_simp; try (with_reducible rfl))
    try simp only [Act.put, List.getElem_toArray, List.getElem_cons_zero, List.getElem_cons_succ, List.setIfInBounds_toArray, List.set_cons_zero, List.set_cons_succ]
    refine wpAnyH_take (i := 7) (v := ?_) rfl (by kernel_rfl) (by kernel_rfl) (by kernel_rfl) (fun _ _ _ h => h) (Or.inl ⟨by rfl, ?_⟩) (by assumption) ?_
    rotate_left 1
    · (intro u hSw; clear hSw; go_simp; try (with_reducible rfl))
    try simp only [Act.put, List.getElem_toArray, List.getElem_cons_zero, List.getElem_cons_succ, List.setIfInBounds_toArray, List.set_cons_zero, List.set_cons_succ]
    refine wpAnyH_take (i := 8) (v := ?_) rfl (by kernel_rfl) (by kernel_rfl) (by kernel_rfl) (fun _ _ _ h => h) (Or.inl ⟨by rfl, ?_⟩) (by assumption) ?_
    rotate_left 1
    · (intro u hSw; clear hSw; go_simp; try (with_reducible rfl))
    try simp only [Act.put, List.getElem_toArray, List.getElem_cons_zero, List.getElem_cons_succ, List.setIfInBounds_toArray, List.set_cons_zero, List.set_cons_succ]
    refine wpAnyH_take (i := 10) (v := ?_) rfl (by kernel_rfl) (by kernel_rfl) (by kernel_rfl) (fun _ _ _ h => h) (Or.inl ⟨by rfl, ?_⟩) (by assumption) ?_
    rotate_left 1
    · (intro u hSw; clear hSw; go_simp; try (with_reducible rfl))
    try simp only [Act.put, List.getElem_toArray, List.getElem_cons_zero, List.getElem_cons_succ, List.setIfInBounds_toArray, List.set_cons_zero, List.set_cons_succ]
    refine wpAnyH_take (i := 11) (v := ?_) rfl (by kernel_rfl) (by kernel_rfl) (by kernel_rfl) (fun _ _ _ h => h) (Or.inl ⟨by rfl, ?_⟩) (by assumption) ?_
    rotate_left 1
    · (intro u hSw; clear hSw; go_simp; try (with_reducible rfl))
    try simp only [Act.put, List.getElem_toArray, List.getElem_cons_zero, List.getElem_cons_succ, List.setIfInBounds_toArray, List.set_cons_zero, List.set_cons_succ]
    have HE := Lib.hid hHeld
    clear hHeld
    refine wpAnyH_done (by kernel_rfl) ?_ _
    try simp only [Act.put, List.getElem_toArray, List.getElem_cons_zero, List.getElem_cons_succ, List.setIfInBounds_toArray, List.set_cons_zero, List.set_cons_succ]
    have HE := Lib.hid HE.out.tail
    have HCC := Lib.hid (And.intro (adCells HE.out.tail.head) (adCells HE.out.head))
    obtain ⟨⟨c0, c1, c2⟩, ⟨d0, d1, d2⟩⟩ := HCC.out
    go_wp2_with fail
    refine (HC.out _).mono ?_
    rintro e w2 ⟨rfl, B2⟩
    simp only []
    have H2 := Lib.hid (HE.out.call B2)
    clear B2 c0 c1 c2 d0 d1 d2
    obtain ⟨cs, hcs, hR⟩ := H2.out.2.1
    have HR0 := Lib.hid (And.intro hcs hR)
    have HR := Lib.hid (H2.out.row (cs := M.cells))
    have HF := Lib.hid (H2.out.store (by simp only [List.mem_cons, List.not_mem_nil, or_false]; rintro x (rfl | rfl); exact HN.out.2.1; exact HN.out.1) HN.out.2.2 (cs := M.cells) rfl)
    clear hcs hR
    go_wp2_with (first | (refine Go.wpList_store_row rfl 30 _ _ rfl R M.cells rfl rfl 30 cs HR0.out.2 info30 HR0.out.1 (pkOne M) ?_))
    obtain ⟨w5, hw5⟩ : ∃ x, x = World.setRow w2 R M.cells := ⟨_, rfl⟩
    rw [← hw5] at HR HF ⊢
    have D5 : w5.heap[R]? = some (.cells #[.bool M.src.v6, .int .u64 M.src.hi, .int .u64 M.src.lo, .bool M.dst.v6, .int .u64 M.dst.hi, .int .u64 M.dst.lo, .int .u8 M.proto, .int .u8 M.ttl, .string M.data] 30) := HR.out
    obtain ⟨k0, k1, k2, k3, k4, k5, k6, k7, k8⟩ := pkCells D5
    clear D5 HR hw5
    refine bodyPost_ret (v := .tuple #[.agg #[.bool M.src.v6, .int .u64 M.src.hi, .int .u64 M.src.lo, .bool M.dst.v6, .int .u64 M.dst.hi, .int .u64 M.dst.lo, .int .u8 M.proto, .int .u8 M.ttl, .string M.data], .int .i64 E]) (by simp [results, Try.results13, go_sem, k0, k1, k2, k3, k4, k5, k6, k7, k8]) rfl ⟨rfl, HF.out.2.2⟩
theorem refEcho_any (a b : Ad) (id : Nat) (r : Bool) (d : ByteArray) (w : World) (ha : a.Ok) (hb : b.Ok) (hf : id < 65536) (hd : d.size ≤ 9000) :
    Calls Try.prog 13 #[.agg #[.bool a.v6, .int .u64 a.hi, .int .u64 a.lo], .agg #[.bool b.v6, .int .u64 b.hi, .int .u64 b.lo], .int .u16 id, .bool r, .string d] w fun e w' =>
      e = .returned (.tuple #[(madeP ⟨a, b, echoP a.v6, 64, echoD (echoK a.v6 r) id d⟩ 2).val, .int .i64 (mayE ⟨a, b, echoP a.v6, 64, echoD (echoK a.v6 r) id d⟩)]) ∧ Below w.heap.size w w' := by
  obtain ⟨v1, h1, l1⟩ := a
  cases v1 <;> cases r
  · exact refEcho_ff h1 l1 b id d w ha hb hf hd
  · exact refEcho_ft h1 l1 b id d w ha hb hf hd
  · exact refEcho_tf h1 l1 b id d w ha hb hf hd
  · exact refEcho_tt h1 l1 b id d w ha hb hf hd

end Go.Proofs.Ytgonakpoflacoaa
