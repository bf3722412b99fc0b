/-
  Packets of TCP made by the document.
-/
import Derived.Test.YtgonakpoflacoaaRefUdp
set_option linter.unusedVariables false
set_option linter.unusedSimpArgs false
namespace Go.Proofs.Ytgonakpoflacoaa
open Go.RowKit

set_option maxHeartbeats 16000000 in
set_option maxRecDepth 100000 in
theorem refTcp_any (a b : Ad) (f tp fl : Nat) (d : ByteArray) (w : World) (ha : a.Ok) (hb : b.Ok) (hf : f < 65536) (ht : tp < 65536) (hfl : fl < 256) (hd : d.size ≤ 9000) :
    Calls Try.prog 11 #[.agg #[.bool a.v6, .int .u64 a.hi, .int .u64 a.lo, .int .u16 f], .agg #[.bool b.v6, .int .u64 b.hi, .int .u64 b.lo, .int .u16 tp], .int .u8 fl, .string d] w fun e w' =>
      e = .returned (.tuple #[(madeP ⟨a, b, 6, 64, tcpD f tp fl d⟩ 16).val, .int .i64 (mayE ⟨a, b, 6, 64, tcpD f tp fl d⟩)]) ∧ Below w.heap.size w w' := by
  obtain ⟨v1, h1, l1⟩ := a
  obtain ⟨v2, h2, l2⟩ := b
  obtain ⟨D, hD⟩ : ∃ D, D = tcpD f tp fl d := ⟨_, rfl⟩
  have hDs : D.size = 20 + d.size := by rw [hD]; exact tcpD_size _ _ _ _
  rw [← hD]
  have C3 : ∀ u, Calls Try.prog 24 #[.agg #[.bool v1, .int .u64 h1, .int .u64 l1, .bool v2, .int .u64 h2, .int .u64 l2, .int .u8 6, .int .u8 64, .string D], .int .i64 16] u fun e w' => e = .returned (.tuple #[(madeP ⟨⟨v1, h1, l1⟩, ⟨v2, h2, l2⟩, 6, 64, D⟩ 16).val, .int .i64 (mayE ⟨⟨v1, h1, l1⟩, ⟨v2, h2, l2⟩, 6, 64, D⟩)]) ∧ Below u.heap.size u w' := fun u => refMade_any ⟨⟨v1, h1, l1⟩, ⟨v2, h2, l2⟩, 6, 64, D⟩ 16 u ⟨ha, hb, (by decide : 6 < 256), (by decide : 64 < 256)⟩ (show 16 + 2 ≤ D.size by omega) (show D.size ≤ 10000 by omega)
  have HC := Lib.hid C3
  obtain ⟨M, hM⟩ : ∃ M : Pk, M = madeP ⟨⟨v1, h1, l1⟩, ⟨v2, h2, l2⟩, 6, 64, D⟩ 16 := ⟨_, rfl⟩
  obtain ⟨E, hE⟩ : ∃ M, M = mayE ⟨⟨v1, h1, l1⟩, ⟨v2, h2, l2⟩, 6, 64, D⟩ := ⟨_, rfl⟩
  rw [← hM, ← hE] at HC
  rw [← hM, ← hE]
  clear C3 hM hE ha hb
  obtain ⟨X1, hX1⟩ : ∃ X, X = beS f 2 := ⟨_, rfl⟩
  obtain ⟨X2, hX2⟩ : ∃ X, X = beS tp 2 := ⟨_, rfl⟩
  have z1 : X1.size = 2 := by rw [hX1]; exact beS_size _ _
  have z2 : X2.size = 2 := by rw [hX2]; exact beS_size _ _
  have a1 := addS X1 X2 (by omega)
  have q1 := u64N f hf
  have q2 := u64N tp ht
  obtain ⟨X4, hX4⟩ : ∃ X : ByteArray, X = ⟨#[UInt8.ofNat fl]⟩ := ⟨_, rfl⟩
  have z4 : X4.size = 1 := by rw [hX4]; rfl
  have a2 := addS (X1 ++ X2) ⟨#[0, 0, 0, 0, 0, 0, 0, 0]⟩ (by rw [ByteArray.size_append]; show X1.size + X2.size + 8 ≤ _; omega)
  obtain ⟨Y, hY⟩ : ∃ Y, Y = X1 ++ X2 ++ ⟨#[0, 0, 0, 0, 0, 0, 0, 0]⟩ := ⟨_, rfl⟩
  have zY : Y.size = 12 := by rw [hY]; simp only [ByteArray.size_append]; show X1.size + X2.size + 8 = _; omega
  rw [← hY] at a2
  have a3 := addS Y ⟨#[80]⟩ (by show Y.size + 1 ≤ _; omega)
  have a4 := addS (Y ++ ⟨#[80]⟩) X4 (by simp only [ByteArray.size_append]; show Y.size + 1 + X4.size ≤ _; omega)
  have a5 := addS (Y ++ ⟨#[80]⟩ ++ X4) ⟨#[255, 255, 0, 0, 0, 0]⟩ (by simp only [ByteArray.size_append]; show Y.size + 1 + X4.size + 6 ≤ _; omega)
  have a6 := addS (Y ++ ⟨#[80]⟩ ++ X4 ++ ⟨#[255, 255, 0, 0, 0, 0]⟩) d (by simp only [ByteArray.size_append]; show Y.size + 1 + X4.size + 6 + d.size ≤ _; omega)
  have hDX : Y ++ ⟨#[80]⟩ ++ X4 ++ ⟨#[255, 255, 0, 0, 0, 0]⟩ ++ d = D := by rw [hX4, tcp_parts, hD, hY, hX1, hX2, ← zero8]; rfl
  rw [hDX] at a6
  have HX := Lib.hid (And.intro hX1 (And.intro hX2 (And.intro hX4 (And.intro (show f < 18446744073709551616 by omega) (And.intro (show tp < 18446744073709551616 by omega) hfl)))))
  have hz : (d.size : Int) ≤ 9000 := by omega
  clear hX1 hX2 hX4 z1 z2 z4 hDX hD hDs hd hf ht hfl hY zY
  have HW0 : HL [(w.heap.size + 1, .cells #[.bool v2, .int .u64 h2, .int .u64 l2, .int .u16 tp] 27), (w.heap.size, .cells #[.bool v1, .int .u64 h1, .int .u64 l1, .int .u16 f] 27)] (w.heap.size + 1 + 1) 9 w (((w.alloc (.cells #[.bool v1, .int .u64 h1, .int .u64 l1, .int .u16 f] 27)).alloc (.cells #[.bool v2, .int .u64 h2, .int .u64 l2, .int .u16 tp] 27)).alloc (.cells #[.bool false, .int .u64 0, .int .u64 0, .bool false, .int .u64 0, .int .u64 0, .int .u8 0, .int .u8 0, .string ⟨#[]⟩] 30)) := HL.two rfl rfl rfl
  have HW := Lib.hid HW0
  clear HW0
  go_enter Try.func11, Try.ntmps11
  go_wp2_with fail
  obtain ⟨w0, hw0⟩ : ∃ x, x = ((w.alloc (.cells #[.bool v1, .int .u64 h1, .int .u64 l1, .int .u16 f] 27)).alloc (.cells #[.bool v2, .int .u64 h2, .int .u64 l2, .int .u16 tp] 27)).alloc (.cells #[.bool false, .int .u64 0, .int .u64 0, .bool false, .int .u64 0, .int .u64 0, .int .u8 0, .int .u8 0, .string ⟨#[]⟩] 30) := ⟨_, rfl⟩
  obtain ⟨R, hR⟩ : ∃ x, x = w.heap.size + 1 + 1 := ⟨_, rfl⟩
  obtain ⟨B, hB⟩ : ∃ x, x = w.heap.size + 1 := ⟨_, rfl⟩
  obtain ⟨A, hA⟩ : ∃ x, x = w.heap.size := ⟨_, rfl⟩
  have HN := Lib.hid (show A ≠ R ∧ B ≠ R ∧ w.heap.size ≤ R by omega)
  have HW : Hid (HL [(B, .cells #[.bool v2, .int .u64 h2, .int .u64 l2, .int .u16 tp] 27), (A, .cells #[.bool v1, .int .u64 h1, .int .u64 l1, .int .u16 f] 27)] R 9 w w0) := by rw [hw0, hR, hB, hA]; exact Lib.hid HW.out
  rw [← hw0, ← hR, ← hB]
  rw [← hA]
  clear hw0 hR hB hA
  refine wp_region_held_drew (S := fun u => HL [(B, .cells #[.bool v2, .int .u64 h2, .int .u64 l2, .int .u16 tp] 27), (A, .cells #[.bool v1, .int .u64 h1, .int .u64 l1, .int .u16 f] 27)] R 9 w u) (by kernel_rfl) HW.out.drew (fun hHeld => ?_)
  refine wpAnyH_take (i := 0) (v := ?_) rfl (by kernel_rfl) (by kernel_rfl) (by kernel_rfl) (fun _ _ _ h => h) (Or.inl ⟨by rfl, ?_⟩) (by assumption) ?_
  rotate_left 1
  · (intro u hSw; clear hSw; go_simp; try (with_reducible rfl))
  try simp only [Act.put, List.getElem_toArray, List.getElem_cons_zero, List.getElem_cons_succ, List.setIfInBounds_toArray, List.set_cons_zero, List.set_cons_succ]
  refine wpAnyH_take (i := 1) (v := ?_) rfl (by kernel_rfl) (by kernel_rfl) (by kernel_rfl) (fun _ _ _ h => h) (Or.inl ⟨by rfl, ?_⟩) (by assumption) ?_
  rotate_left 1
  · (intro u hSw; have hSv := hSw; clear hSw; obtain ⟨c0, c1, c2, c3⟩ := epCells hSv.tail.head; clear hSv; go_simp; try (with_reducible rfl))
  try simp only [Act.put, List.getElem_toArray, List.getElem_cons_zero, List.getElem_cons_succ, List.setIfInBounds_toArray, List.set_cons_zero, List.set_cons_succ]
  refine wpAnyH_take (i := 2) (v := ?_) rfl (by kernel_rfl) (by kernel_rfl) (by kernel_rfl) (fun _ _ _ h => h) (Or.inl ⟨by rfl, ?_⟩) (by assumption) ?_
  rotate_left 1
  · (intro u hSw; clear hSw; go_simp; try (with_reducible rfl))
  try simp only [Act.put, List.getElem_toArray, List.getElem_cons_zero, List.getElem_cons_succ, List.setIfInBounds_toArray, List.set_cons_zero, List.set_cons_succ]
  refine wpAnyH_take (i := 4) (v := ?_) rfl (by kernel_rfl) (by kernel_rfl) (by kernel_rfl) (fun _ _ _ h => h) (Or.inl ⟨by rfl, ?_⟩) (by assumption) ?_
  rotate_left 1
  · (intro u hSw; clear hSw; go_simp; try (with_reducible rfl))
  try simp only [Act.put, List.getElem_toArray, List.getElem_cons_zero, List.getElem_cons_succ, List.setIfInBounds_toArray, List.set_cons_zero, List.set_cons_succ]
  refine wpAnyH_take (i := 5) (v := ?_) rfl (by kernel_rfl) (by kernel_rfl) (by kernel_rfl) (fun _ _ _ h => h) (Or.inl ⟨by rfl, ?_⟩) (by assumption) ?_
  rotate_left 1
  · (intro u hSw; have hSv := hSw; clear hSw; obtain ⟨c0, c1, c2, c3⟩ := epCells hSv.head; clear hSv; go_simp; try (with_reducible rfl))
  try simp only [Act.put, List.getElem_toArray, List.getElem_cons_zero, List.getElem_cons_succ, List.setIfInBounds_toArray, List.set_cons_zero, List.set_cons_succ]
  refine wpAnyH_take (i := 6) (v := ?_) rfl (by kernel_rfl) (by kernel_rfl) (by kernel_rfl) (fun _ _ _ h => h) (Or.inl ⟨by rfl, ?_⟩) (by assumption) ?_
  rotate_left 1
  · (intro u hSw; clear hSw; go_simp; try (with_reducible rfl))
  try simp only [Act.put, List.getElem_toArray, List.getElem_cons_zero, List.getElem_cons_succ, List.setIfInBounds_toArray, List.set_cons_zero, List.set_cons_succ]
  refine wpAnyH_take (i := 13) (v := ?_) rfl (by kernel_rfl) (by kernel_rfl) (by kernel_rfl) (fun _ _ _ h => h) (Or.inl ⟨by rfl, ?_⟩) (by assumption) ?_
  rotate_left 1
  · (intro u hSw; clear hSw; go_simp; try (with_reducible rfl))
  try simp only [Act.put, List.getElem_toArray, List.getElem_cons_zero, List.getElem_cons_succ, List.setIfInBounds_toArray, List.set_cons_zero, List.set_cons_succ]
  refine wpAnyH_take (i := 18) (v := ?_) rfl (by kernel_rfl) (by kernel_rfl) (by kernel_rfl) (fun _ _ _ h => h) (Or.inl ⟨by rfl, ?_⟩) (by assumption) ?_
  rotate_left 1
  · (intro u hSw; clear hSw; go_simp; try (with_reducible rfl))
  try simp only [Act.put, List.getElem_toArray, List.getElem_cons_zero, List.getElem_cons_succ, List.setIfInBounds_toArray, List.set_cons_zero, List.set_cons_succ]
  refine wpAnyH_ready (rs := [3, 9, 14]) (by kernel_rfl) (by simp) ?_
  refine AllReadyH.cons (i := 3) (o := ?o1) ?ho1 (fun K hK => ?st1) ?mo1
  case ho1 => rfl
  case st1 =>
    have HS := Lib.hid hHeld
    clear hHeld
    go_simp
    refine (num_any f 2 _ HX.out.2.2.2.1 (by decide) (by decide)).mono ?_
    rintro e w1 ⟨rfl, B1⟩
    rw [← HX.out.1]
    simp only []
    refine hK.out _ _ (HS.out.call B1) (fun hHeld => ?_)
    clear hK K HS B1
    try simp only [Act.put, List.getElem_toArray, List.getElem_cons_zero, List.getElem_cons_succ, List.setIfInBounds_toArray, List.set_cons_zero, List.set_cons_succ]
    refine wpAnyH_ready (rs := [7, 9, 14]) (by kernel_rfl) (by simp) ?_
    refine AllReadyH.cons (i := 7) (o := ?o2) ?ho2 (fun K hK => ?st2) ?mo2
    case ho2 => rfl
    case st2 =>
      have HS := Lib.hid hHeld
      clear hHeld
      go_simp
      refine (num_any tp 2 _ HX.out.2.2.2.2.1 (by decide) (by decide)).mono ?_
      rintro e w1 ⟨rfl, B1⟩
      rw [← HX.out.2.1]
      simp only []
      refine hK.out _ _ (HS.out.call B1) (fun hHeld => ?_)
      clear hK K HS B1
      try simp only [Act.put, List.getElem_toArray, List.getElem_cons_zero, List.getElem_cons_succ, List.setIfInBounds_toArray, List.set_cons_zero, List.set_cons_succ]
      refine wpAnyH_take (i := 8) (v := ?_) rfl (by kernel_rfl) (by kernel_rfl) (by kernel_rfl) (fun _ _ _ h => h) (Or.inl ⟨by rfl, ?_⟩) (by assumption) ?_
      rotate_left 1
      · (intro u hSw; clear hSw; go_simp; try (with_reducible rfl))
      try simp only [Act.put, List.getElem_toArray, List.getElem_cons_zero, List.getElem_cons_succ, List.setIfInBounds_toArray, List.set_cons_zero, List.set_cons_succ]
      refine wpAnyH_ready (rs := [9, 14]) (by kernel_rfl) (by simp) ?_
      refine AllReadyH.cons (i := 9) (o := ?o3) ?ho3 (fun K hK => ?st3) ?mo3
      case ho3 => rfl
      case st3 =>
        have HS := Lib.hid hHeld
        clear hHeld
        have hmk : ∀ u, (Instr.makeSlice 37 (.int .i64 8) (.int .i64 8)).run Try.prog u = .ok (.slice (some ⟨u.heap.size, 0, none⟩) 8 8) (u.alloc (.cells #[.int .u8 0, .int .u8 0, .int .u8 0, .int .u8 0, .int .u8 0, .int .u8 0, .int .u8 0, .int .u8 0] 5)) := fun _ => by kernel_rfl
        go_simp
        refine hK.out _ (w1.alloc (.cells #[.int .u8 0, .int .u8 0, .int .u8 0, .int .u8 0, .int .u8 0, .int .u8 0, .int .u8 0, .int .u8 0] 5)) (HS.out.alloc _) (fun hHeld => ?_)
        have hHeld : HL [(w1.heap.size, .cells #[.int .u8 0, .int .u8 0, .int .u8 0, .int .u8 0, .int .u8 0, .int .u8 0, .int .u8 0, .int .u8 0] 5), (B, .cells #[.bool v2, .int .u64 h2, .int .u64 l2, .int .u16 tp] 27), (A, .cells #[.bool v1, .int .u64 h1, .int .u64 l1, .int .u16 f] 27)] R 9 w (w1.alloc (.cells #[.int .u8 0, .int .u8 0, .int .u8 0, .int .u8 0, .int .u8 0, .int .u8 0, .int .u8 0, .int .u8 0] 5)) := HS.out.made _
        refine wpAnyH_strong (S2 := fun u => HL [(w1.heap.size, .cells #[.int .u8 0, .int .u8 0, .int .u8 0, .int .u8 0, .int .u8 0, .int .u8 0, .int .u8 0, .int .u8 0] 5), (B, .cells #[.bool v2, .int .u64 h2, .int .u64 l2, .int .u16 tp] 27), (A, .cells #[.bool v1, .int .u64 h1, .int .u64 l1, .int .u16 f] 27)] R 9 w u) (fun u hu => hu.tail) _ _ _ _ ?_
        clear hK K HS
        obtain ⟨g9, hgg⟩ : ∃ g, g = w1.heap.size := ⟨_, rfl⟩
        rw [← hgg] at hHeld ⊢
        obtain ⟨v9, hwn⟩ : ∃ x, x = (w1.alloc (.cells #[.int .u8 0, .int .u8 0, .int .u8 0, .int .u8 0, .int .u8 0, .int .u8 0, .int .u8 0, .int .u8 0] 5)) := ⟨_, rfl⟩
        rw [← hwn] at hHeld ⊢
        clear hgg hwn
        try simp only [Act.put, List.getElem_toArray, List.getElem_cons_zero, List.getElem_cons_succ, List.setIfInBounds_toArray, List.set_cons_zero, List.set_cons_succ]
        refine wpAnyH_take (i := 10) (v := ?_) rfl (by kernel_rfl) (by kernel_rfl) (by kernel_rfl) (fun _ _ _ h => h) (Or.inl ⟨by rfl, ?_⟩) (by assumption) ?_
        rotate_left 1
        · (intro u hSw; have hcv := eight_conv (hSw.head); skip; clear hSw; go_simp; try (with_reducible rfl))
        try simp only [Act.put, List.getElem_toArray, List.getElem_cons_zero, List.getElem_cons_succ, List.setIfInBounds_toArray, List.set_cons_zero, List.set_cons_succ]
        refine wpAnyH_take (i := 11) (v := ?_) rfl (by kernel_rfl) (by kernel_rfl) (by kernel_rfl) (fun _ _ _ h => h) (Or.inl ⟨by rfl, ?_⟩) (by assumption) ?_
        rotate_left 1
        · (intro u hSw; clear hSw; go_simp; try (with_reducible rfl))
        try simp only [Act.put, List.getElem_toArray, List.getElem_cons_zero, List.getElem_cons_succ, List.setIfInBounds_toArray, List.set_cons_zero, List.set_cons_succ]
        refine wpAnyH_take (i := 12) (v := ?_) rfl (by kernel_rfl) (by kernel_rfl) (by kernel_rfl) (fun _ _ _ h => h) (Or.inl ⟨by rfl, ?_⟩) (by assumption) ?_
        rotate_left 1
        · (intro u hSw; clear hSw; go_simp; try (with_reducible rfl))
        try simp only [Act.put, List.getElem_toArray, List.getElem_cons_zero, List.getElem_cons_succ, List.setIfInBounds_toArray, List.set_cons_zero, List.set_cons_succ]
        refine wpAnyH_ready (rs := [14]) (by kernel_rfl) (by simp) ?_
        refine AllReadyH.cons rfl (fun K hK => ?_) AllReadyH.nil
        have HS := Lib.hid hHeld
        clear hHeld
        go_simp
        refine hK.out _ (v9.alloc (.cells #[.int .u8 fl] 5)) (HS.out.alloc _) (fun hHeld => ?_)
        have hHeld : HL [(v9.heap.size, .cells #[.int .u8 fl] 5), (g9, .cells #[.int .u8 0, .int .u8 0, .int .u8 0, .int .u8 0, .int .u8 0, .int .u8 0, .int .u8 0, .int .u8 0] 5), (B, .cells #[.bool v2, .int .u64 h2, .int .u64 l2, .int .u16 tp] 27), (A, .cells #[.bool v1, .int .u64 h1, .int .u64 l1, .int .u16 f] 27)] R 9 w (v9.alloc (.cells #[.int .u8 fl] 5)) := HS.out.made _
        refine wpAnyH_strong (S2 := fun u => HL [(v9.heap.size, .cells #[.int .u8 fl] 5), (g9, .cells #[.int .u8 0, .int .u8 0, .int .u8 0, .int .u8 0, .int .u8 0, .int .u8 0, .int .u8 0, .int .u8 0] 5), (B, .cells #[.bool v2, .int .u64 h2, .int .u64 l2, .int .u16 tp] 27), (A, .cells #[.bool v1, .int .u64 h1, .int .u64 l1, .int .u16 f] 27)] R 9 w u) (fun u hu => hu.tail) _ _ _ _ ?_
        clear hK K HS
        obtain ⟨g14, hgg⟩ : ∃ g, g = v9.heap.size := ⟨_, rfl⟩
        rw [← hgg] at hHeld ⊢
        obtain ⟨v14, hwn⟩ : ∃ x, x = (v9.alloc (.cells #[.int .u8 fl] 5)) := ⟨_, rfl⟩
        rw [← hwn] at hHeld ⊢
        clear hgg hwn
        try simp only [Act.put, List.getElem_toArray, List.getElem_cons_zero, List.getElem_cons_succ, List.setIfInBounds_toArray, List.set_cons_zero, List.set_cons_succ]
        refine wpAnyH_take (i := 15) (v := ?_) rfl (by kernel_rfl) (by kernel_rfl) (by kernel_rfl) (fun _ _ _ h => h) (Or.inl ⟨by rfl, ?_⟩) (by assumption) ?_
        rotate_left 1
        · (intro u hSw; have hcv := one_conv HX.out.2.2.2.2.2 (hSw.head); rw [← HX.out.2.2.1] at hcv; clear hSw; go_simp; try (with_reducible rfl))
        try simp only [Act.put, List.getElem_toArray, List.getElem_cons_zero, List.getElem_cons_succ, List.setIfInBounds_toArray, List.set_cons_zero, List.set_cons_succ]
        refine wpAnyH_take (i := 16) (v := ?_) rfl (by kernel_rfl) (by kernel_rfl) (by kernel_rfl) (fun _ _ _ h => h) (Or.inl ⟨by rfl, ?_⟩) (by assumption) ?_
        rotate_left 1
        · (intro u hSw; clear hSw; go_simp; try (with_reducible rfl))
        try simp only [Act.put, List.getElem_toArray, List.getElem_cons_zero, List.getElem_cons_succ, List.setIfInBounds_toArray, List.set_cons_zero, List.set_cons_succ]
        refine wpAnyH_take (i := 17) (v := ?_) rfl (by kernel_rfl) (by kernel_rfl) (by kernel_rfl) (fun _ _ _ h => h) (Or.inl ⟨by rfl, ?_⟩) (by assumption) ?_
        rotate_left 1
        · (intro u hSw; clear hSw; go_simp; try (with_reducible rfl))
        try simp only [Act.put, List.getElem_toArray, List.getElem_cons_zero, List.getElem_cons_succ, List.setIfInBounds_toArray, List.set_cons_zero, List.set_cons_succ]
        refine wpAnyH_take (i := 19) (v := ?_) rfl (by kernel_rfl) (by kernel_rfl) (by kernel_rfl) (fun _ _ _ h => h) (Or.inl ⟨by rfl, ?_⟩) (by assumption) ?_
        rotate_left 1
        · (intro u hSw; clear hSw; go_simp; try (with_reducible rfl))
        try simp only [Act.put, List.getElem_toArray, List.getElem_cons_zero, List.getElem_cons_succ, List.setIfInBounds_toArray, List.set_cons_zero, List.set_cons_succ]
        refine wpAnyH_take (i := 20) (v := ?_) rfl (by kernel_rfl) (by kernel_rfl) (by kernel_rfl) (fun _ _ _ h => h) (Or.inl ⟨by rfl, ?_⟩) (by assumption) ?_
        rotate_left 1
        · (intro u hSw; clear hSw; go_simp; try (with_reducible rfl))
        try simp only [Act.put, List.getElem_toArray, List.getElem_cons_zero, List.getElem_cons_succ, List.setIfInBounds_toArray, List.set_cons_zero, List.set_cons_succ]
        have HE := Lib.hid hHeld
        clear hHeld
        refine wpAnyH_done (by kernel_rfl) ?_ _
        try simp only [Act.put, List.getElem_toArray, List.getElem_cons_zero, List.getElem_cons_succ, List.setIfInBounds_toArray, List.set_cons_zero, List.set_cons_succ]
        have HE := Lib.hid HE.out.tail.tail
        have HCC := Lib.hid (And.intro (epCells HE.out.tail.head) (epCells HE.out.head))
        obtain ⟨⟨c0, c1, c2, c3⟩, ⟨d0, d1, d2, d3⟩⟩ := HCC.out
        clear c3 d3
        go_wp2_with fail
        refine (HC.out _).mono ?_
        rintro e w2 ⟨rfl, B2⟩
        simp only []
        have H2 := Lib.hid (HE.out.call B2)
        clear B2 c0 c1 c2 d0 d1 d2
        obtain ⟨cs, hcs, hR⟩ := H2.out.2.1
        have HR0 := Lib.hid (And.intro hcs hR)
        have HR := Lib.hid (H2.out.row (cs := M.cells))
        have HF := Lib.hid (H2.out.store (by simp only [List.mem_cons, List.not_mem_nil, or_false]; rintro x (rfl | rfl); exact HN.out.2.1; exact HN.out.1) HN.out.2.2 (cs := M.cells) rfl)
        clear hcs hR
        go_wp2_with (first | (refine Go.wpList_store_row rfl 30 _ _ rfl R M.cells rfl rfl 30 cs HR0.out.2 info30 HR0.out.1 (pkOne M) ?_))
        obtain ⟨w5, hw5⟩ : ∃ x, x = World.setRow w2 R M.cells := ⟨_, rfl⟩
        rw [← hw5] at HR HF ⊢
        have D5 : w5.heap[R]? = some (.cells #[.bool M.src.v6, .int .u64 M.src.hi, .int .u64 M.src.lo, .bool M.dst.v6, .int .u64 M.dst.hi, .int .u64 M.dst.lo, .int .u8 M.proto, .int .u8 M.ttl, .string M.data] 30) := HR.out
        obtain ⟨k0, k1, k2, k3, k4, k5, k6, k7, k8⟩ := pkCells D5
        clear D5 HR hw5
        refine bodyPost_ret (v := .tuple #[.agg #[.bool M.src.v6, .int .u64 M.src.hi, .int .u64 M.src.lo, .bool M.dst.v6, .int .u64 M.dst.hi, .int .u64 M.dst.lo, .int .u8 M.proto, .int .u8 M.ttl, .string M.data], .int .i64 E]) (by simp [results, Try.results11, go_sem, k0, k1, k2, k3, k4, k5, k6, k7, k8]) rfl ⟨rfl, HF.out.2.2⟩
      case mo3 =>
        refine AllReadyH.cons rfl (fun K hK => ?_) AllReadyH.nil
        have HS := Lib.hid hHeld
        clear hHeld
        go_simp
        refine hK.out _ (w1.alloc (.cells #[.int .u8 fl] 5)) (HS.out.alloc _) (fun hHeld => ?_)
        have hHeld : HL [(w1.heap.size, .cells #[.int .u8 fl] 5), (B, .cells #[.bool v2, .int .u64 h2, .int .u64 l2, .int .u16 tp] 27), (A, .cells #[.bool v1, .int .u64 h1, .int .u64 l1, .int .u16 f] 27)] R 9 w (w1.alloc (.cells #[.int .u8 fl] 5)) := HS.out.made _
        refine wpAnyH_strong (S2 := fun u => HL [(w1.heap.size, .cells #[.int .u8 fl] 5), (B, .cells #[.bool v2, .int .u64 h2, .int .u64 l2, .int .u16 tp] 27), (A, .cells #[.bool v1, .int .u64 h1, .int .u64 l1, .int .u16 f] 27)] R 9 w u) (fun u hu => hu.tail) _ _ _ _ ?_
        clear hK K HS
        obtain ⟨g14, hgg⟩ : ∃ g, g = w1.heap.size := ⟨_, rfl⟩
        rw [← hgg] at hHeld ⊢
        obtain ⟨v14, hwn⟩ : ∃ x, x = (w1.alloc (.cells #[.int .u8 fl] 5)) := ⟨_, rfl⟩
        rw [← hwn] at hHeld ⊢
        clear hgg hwn
        try simp only [Act.put, List.getElem_toArray, List.getElem_cons_zero, List.getElem_cons_succ, List.setIfInBounds_toArray, List.set_cons_zero, List.set_cons_succ]
        refine wpAnyH_take (i := 15) (v := ?_) rfl (by kernel_rfl) (by kernel_rfl) (by kernel_rfl) (fun _ _ _ h => h) (Or.inl ⟨by rfl, ?_⟩) (by assumption) ?_
        rotate_left 1
        · (intro u hSw; have hcv := one_conv HX.out.2.2.2.2.2 (hSw.head); rw [← HX.out.2.2.1] at hcv; clear hSw; go_simp; try (with_reducible rfl))
        try simp only [Act.put, List.getElem_toArray, List.getElem_cons_zero, List.getElem_cons_succ, List.setIfInBounds_toArray, List.set_cons_zero, List.set_cons_succ]
        refine wpAnyH_ready (rs := [9]) (by kernel_rfl) (by simp) ?_
        refine AllReadyH.cons rfl (fun K hK => ?_) AllReadyH.nil
        have HS := Lib.hid hHeld
        clear hHeld
        have hmk : ∀ u, (Instr.makeSlice 37 (.int .i64 8) (.int .i64 8)).run Try.prog u = .ok (.slice (some ⟨u.heap.size, 0, none⟩) 8 8) (u.alloc (.cells #[.int .u8 0, .int .u8 0, .int .u8 0, .int .u8 0, .int .u8 0, .int .u8 0, .int .u8 0, .int .u8 0] 5)) := fun _ => by kernel_rfl
        go_simp
        refine hK.out _ (v14.alloc (.cells #[.int .u8 0, .int .u8 0, .int .u8 0, .int .u8 0, .int .u8 0, .int .u8 0, .int .u8 0, .int .u8 0] 5)) (HS.out.alloc _) (fun hHeld => ?_)
        have hHeld : HL [(v14.heap.size, .cells #[.int .u8 0, .int .u8 0, .int .u8 0, .int .u8 0, .int .u8 0, .int .u8 0, .int .u8 0, .int .u8 0] 5), (g14, .cells #[.int .u8 fl] 5), (B, .cells #[.bool v2, .int .u64 h2, .int .u64 l2, .int .u16 tp] 27), (A, .cells #[.bool v1, .int .u64 h1, .int .u64 l1, .int .u16 f] 27)] R 9 w (v14.alloc (.cells #[.int .u8 0, .int .u8 0, .int .u8 0, .int .u8 0, .int .u8 0, .int .u8 0, .int .u8 0, .int .u8 0] 5)) := HS.out.made _
        refine wpAnyH_strong (S2 := fun u => HL [(v14.heap.size, .cells #[.int .u8 0, .int .u8 0, .int .u8 0, .int .u8 0, .int .u8 0, .int .u8 0, .int .u8 0, .int .u8 0] 5), (g14, .cells #[.int .u8 fl] 5), (B, .cells #[.bool v2, .int .u64 h2, .int .u64 l2, .int .u16 tp] 27), (A, .cells #[.bool v1, .int .u64 h1, .int .u64 l1, .int .u16 f] 27)] R 9 w u) (fun u hu => hu.tail) _ _ _ _ ?_
        clear hK K HS
        obtain ⟨g9, hgg⟩ : ∃ g, g = v14.heap.size := ⟨_, rfl⟩
        rw [← hgg] at hHeld ⊢
        obtain ⟨v9, hwn⟩ : ∃ x, x = (v14.alloc (.cells #[.int .u8 0, .int .u8 0, .int .u8 0, .int .u8 0, .int .u8 0, .int .u8 0, .int .u8 0, .int .u8 0] 5)) := ⟨_, rfl⟩
        rw [← hwn] at hHeld ⊢
        clear hgg hwn
        try simp only [Act.put, List.getElem_toArray, List.getElem_cons_zero, List.getElem_cons_succ, List.setIfInBounds_toArray, List.set_cons_zero, List.set_cons_succ]
        refine wpAnyH_take (i := 10) (v := ?_) rfl (by kernel_rfl) (by kernel_rfl) (by kernel_rfl) (fun _ _ _ h => h) (Or.inl ⟨by rfl, ?_⟩) (by assumption) ?_
        rotate_left 1
        · (intro u hSw; have hcv := eight_conv (hSw.head); skip; clear hSw; go_simp; try (with_reducible rfl))
        try simp only [Act.put, List.getElem_toArray, List.getElem_cons_zero, List.getElem_cons_succ, List.setIfInBounds_toArray, List.set_cons_zero, List.set_cons_succ]
        refine wpAnyH_take (i := 11) (v := ?_) rfl (by kernel_rfl) (by kernel_rfl) (by kernel_rfl) (fun _ _ _ h => h) (Or.inl ⟨by rfl, ?_⟩) (by assumption) ?_
        rotate_left 1
        · (intro u hSw; clear hSw; go_simp; try (with_reducible rfl))
        try simp only [Act.put, List.getElem_toArray, List.getElem_cons_zero, List.getElem_cons_succ, List.setIfInBounds_toArray, List.set_cons_zero, List.set_cons_succ]
        refine wpAnyH_take (i := 12) (v := ?_) rfl (by kernel_rfl) (by kernel_rfl) (by kernel_rfl) (fun _ _ _ h => h) (Or.inl ⟨by rfl, ?_⟩) (by assumption) ?_
        rotate_left 1
        · (intro u hSw; clear hSw; go_simp; try (with_reducible rfl))
        try simp only [Act.put, List.getElem_toArray, List.getElem_cons_zero, List.getElem_cons_succ, List.setIfInBounds_toArray, List.set_cons_zero, List.set_cons_succ]
        refine wpAnyH_take (i := 16) (v := ?_) rfl (by kernel_rfl) (by kernel_rfl) (by kernel_rfl) (fun _ _ _ h => h) (Or.inl ⟨by rfl, ?_⟩) (by assumption) ?_
        rotate_left 1
        · (intro u hSw; clear hSw; go_simp; try (with_reducible rfl))
        try simp only [Act.put, List.getElem_toArray, List.getElem_cons_zero, List.getElem_cons_succ, List.setIfInBounds_toArray, List.set_cons_zero, List.set_cons_succ]
        refine wpAnyH_take (i := 17) (v := ?_) rfl (by kernel_rfl) (by kernel_rfl) (by kernel_rfl) (fun _ _ _ h => h) (Or.inl ⟨by rfl, ?_⟩) (by assumption) ?_
        rotate_left 1
        · (intro u hSw; clear hSw; go_simp; try (with_reducible rfl))
        try simp only [Act.put, List.getElem_toArray, List.getElem_cons_zero, List.getElem_cons_succ, List.setIfInBounds_toArray, List.set_cons_zero, List.set_cons_succ]
        refine wpAnyH_take (i := 19) (v := ?_) rfl (by kernel_rfl) (by kernel_rfl) (by kernel_rfl) (fun _ _ _ h => h) (Or.inl ⟨by rfl, ?_⟩) (by assumption) ?_
        rotate_left 1
        · (intro u hSw; clear hSw; go_simp; try (with_reducible rfl))
        try simp only [Act.put, List.getElem_toArray, List.getElem_cons_zero, List.getElem_cons_succ, List.setIfInBounds_toArray, List.set_cons_zero, List.set_cons_succ]
        refine wpAnyH_take (i := 20) (v := ?_) rfl (by kernel_rfl) (by kernel_rfl) (by kernel_rfl) (fun _ _ _ h => h) (Or.inl ⟨by rfl, ?_⟩) (by assumption) ?_
        rotate_left 1
        · (intro u hSw; clear hSw; go_simp; try (with_reducible rfl))
        try simp only [Act.put, List.getElem_toArray, List.getElem_cons_zero, List.getElem_cons_succ, List.setIfInBounds_toArray, List.set_cons_zero, List.set_cons_succ]
        have HE := Lib.hid hHeld
        clear hHeld
        refine wpAnyH_done (by kernel_rfl) ?_ _
        try simp only [Act.put, List.getElem_toArray, List.getElem_cons_zero, List.getElem_cons_succ, List.setIfInBounds_toArray, List.set_cons_zero, List.set_cons_succ]
        have HE := Lib.hid HE.out.tail.tail
        have HCC := Lib.hid (And.intro (epCells HE.out.tail.head) (epCells HE.out.head))
        obtain ⟨⟨c0, c1, c2, c3⟩, ⟨d0, d1, d2, d3⟩⟩ := HCC.out
        clear c3 d3
        go_wp2_with fail
        refine (HC.out _).mono ?_
        rintro e w2 ⟨rfl, B2⟩
        simp only []
        have H2 := Lib.hid (HE.out.call B2)
        clear B2 c0 c1 c2 d0 d1 d2
        obtain ⟨cs, hcs, hR⟩ := H2.out.2.1
        have HR0 := Lib.hid (And.intro hcs hR)
        have HR := Lib.hid (H2.out.row (cs := M.cells))
        have HF := Lib.hid (H2.out.store (by simp only [List.mem_cons, List.not_mem_nil, or_false]; rintro x (rfl | rfl); exact HN.out.2.1; exact HN.out.1) HN.out.2.2 (cs := M.cells) rfl)
        clear hcs hR
        go_wp2_with (first | (refine Go.wpList_store_row rfl 30 _ _ rfl R M.cells rfl rfl 30 cs HR0.out.2 info30 HR0.out.1 (pkOne M) ?_))
        obtain ⟨w5, hw5⟩ : ∃ x, x = World.setRow w2 R M.cells := ⟨_, rfl⟩
        rw [← hw5] at HR HF ⊢
        have D5 : w5.heap[R]? = some (.cells #[.bool M.src.v6, .int .u64 M.src.hi, .int .u64 M.src.lo, .bool M.dst.v6, .int .u64 M.dst.hi, .int .u64 M.dst.lo, .int .u8 M.proto, .int .u8 M.ttl, .string M.data] 30) := HR.out
        obtain ⟨k0, k1, k2, k3, k4, k5, k6, k7, k8⟩ := pkCells D5
        clear D5 HR hw5
        refine bodyPost_ret (v := .tuple #[.agg #[.bool M.src.v6, .int .u64 M.src.hi, .int .u64 M.src.lo, .bool M.dst.v6, .int .u64 M.dst.hi, .int .u64 M.dst.lo, .int .u8 M.proto, .int .u8 M.ttl, .string M.data], .int .i64 E]) (by simp [results, Try.results11, go_sem, k0, k1, k2, k3, k4, k5, k6, k7, k8]) rfl ⟨rfl, HF.out.2.2⟩
    case mo2 =>
      refine AllReadyH.cons (i := 9) (o := ?o4) ?ho4 (fun K hK => ?st4) ?mo4
      case ho4 => rfl
      case st4 =>
        have HS := Lib.hid hHeld
        clear hHeld
        have hmk : ∀ u, (Instr.makeSlice 37 (.int .i64 8) (.int .i64 8)).run Try.prog u = .ok (.slice (some ⟨u.heap.size, 0, none⟩) 8 8) (u.alloc (.cells #[.int .u8 0, .int .u8 0, .int .u8 0, .int .u8 0, .int .u8 0, .int .u8 0, .int .u8 0, .int .u8 0] 5)) := fun _ => by kernel_rfl
        go_simp
        refine hK.out _ (w1.alloc (.cells #[.int .u8 0, .int .u8 0, .int .u8 0, .int .u8 0, .int .u8 0, .int .u8 0, .int .u8 0, .int .u8 0] 5)) (HS.out.alloc _) (fun hHeld => ?_)
        have hHeld : HL [(w1.heap.size, .cells #[.int .u8 0, .int .u8 0, .int .u8 0, .int .u8 0, .int .u8 0, .int .u8 0, .int .u8 0, .int .u8 0] 5), (B, .cells #[.bool v2, .int .u64 h2, .int .u64 l2, .int .u16 tp] 27), (A, .cells #[.bool v1, .int .u64 h1, .int .u64 l1, .int .u16 f] 27)] R 9 w (w1.alloc (.cells #[.int .u8 0, .int .u8 0, .int .u8 0, .int .u8 0, .int .u8 0, .int .u8 0, .int .u8 0, .int .u8 0] 5)) := HS.out.made _
        refine wpAnyH_strong (S2 := fun u => HL [(w1.heap.size, .cells #[.int .u8 0, .int .u8 0, .int .u8 0, .int .u8 0, .int .u8 0, .int .u8 0, .int .u8 0, .int .u8 0] 5), (B, .cells #[.bool v2, .int .u64 h2, .int .u64 l2, .int .u16 tp] 27), (A, .cells #[.bool v1, .int .u64 h1, .int .u64 l1, .int .u16 f] 27)] R 9 w u) (fun u hu => hu.tail) _ _ _ _ ?_
        clear hK K HS
        obtain ⟨g9, hgg⟩ : ∃ g, g = w1.heap.size := ⟨_, rfl⟩
        rw [← hgg] at hHeld ⊢
        obtain ⟨v9, hwn⟩ : ∃ x, x = (w1.alloc (.cells #[.int .u8 0, .int .u8 0, .int .u8 0, .int .u8 0, .int .u8 0, .int .u8 0, .int .u8 0, .int .u8 0] 5)) := ⟨_, rfl⟩
        rw [← hwn] at hHeld ⊢
        clear hgg hwn
        try simp only [Act.put, List.getElem_toArray, List.getElem_cons_zero, List.getElem_cons_succ, List.setIfInBounds_toArray, List.set_cons_zero, List.set_cons_succ]
        refine wpAnyH_take (i := 10) (v := ?_) rfl (by kernel_rfl) (by kernel_rfl) (by kernel_rfl) (fun _ _ _ h => h) (Or.inl ⟨by rfl, ?_⟩) (by assumption) ?_
        rotate_left 1
        · (intro u hSw; have hcv := eight_conv (hSw.head); skip; clear hSw; go_simp; try (with_reducible rfl))
        try simp only [Act.put, List.getElem_toArray, List.getElem_cons_zero, List.getElem_cons_succ, List.setIfInBounds_toArray, List.set_cons_zero, List.set_cons_succ]
        refine wpAnyH_ready (rs := [7, 14]) (by kernel_rfl) (by simp) ?_
        refine AllReadyH.cons (i := 7) (o := ?o5) ?ho5 (fun K hK => ?st5) ?mo5
        case ho5 => rfl
        case st5 =>
          have HS := Lib.hid hHeld
          clear hHeld
          go_simp
          refine (num_any tp 2 _ HX.out.2.2.2.2.1 (by decide) (by decide)).mono ?_
          rintro e w1 ⟨rfl, B1⟩
          rw [← HX.out.2.1]
          simp only []
          refine hK.out _ _ (HS.out.call B1) (fun hHeld => ?_)
          clear hK K HS B1
          try simp only [Act.put, List.getElem_toArray, List.getElem_cons_zero, List.getElem_cons_succ, List.setIfInBounds_toArray, List.set_cons_zero, List.set_cons_succ]
          refine wpAnyH_take (i := 8) (v := ?_) rfl (by kernel_rfl) (by kernel_rfl) (by kernel_rfl) (fun _ _ _ h => h) (Or.inl ⟨by rfl, ?_⟩) (by assumption) ?_
          rotate_left 1
          · (intro u hSw; clear hSw; go_simp; try (with_reducible rfl))
          try simp only [Act.put, List.getElem_toArray, List.getElem_cons_zero, List.getElem_cons_succ, List.setIfInBounds_toArray, List.set_cons_zero, List.set_cons_succ]
          refine wpAnyH_take (i := 11) (v := ?_) rfl (by kernel_rfl) (by kernel_rfl) (by kernel_rfl) (fun _ _ _ h => h) (Or.inl ⟨by rfl, ?_⟩) (by assumption) ?_
          rotate_left 1
          · (intro u hSw; clear hSw; go_simp; try (with_reducible rfl))
          try simp only [Act.put, List.getElem_toArray, List.getElem_cons_zero, List.getElem_cons_succ, List.setIfInBounds_toArray, List.set_cons_zero, List.set_cons_succ]
          refine wpAnyH_take (i := 12) (v := ?_) rfl (by kernel_rfl) (by kernel_rfl) (by kernel_rfl) (fun _ _ _ h => h) (Or.inl ⟨by rfl, ?_⟩) (by assumption) ?_
          rotate_left 1
          · (intro u hSw; clear hSw; go_simp; try (with_reducible rfl))
          try simp only [Act.put, List.getElem_toArray, List.getElem_cons_zero, List.getElem_cons_succ, List.setIfInBounds_toArray, List.set_cons_zero, List.set_cons_succ]
          refine wpAnyH_ready (rs := [14]) (by kernel_rfl) (by simp) ?_
          refine AllReadyH.cons rfl (fun K hK => ?_) AllReadyH.nil
          have HS := Lib.hid hHeld
          clear hHeld
          go_simp
          refine hK.out _ (w1.alloc (.cells #[.int .u8 fl] 5)) (HS.out.alloc _) (fun hHeld => ?_)
          have hHeld : HL [(w1.heap.size, .cells #[.int .u8 fl] 5), (g9, .cells #[.int .u8 0, .int .u8 0, .int .u8 0, .int .u8 0, .int .u8 0, .int .u8 0, .int .u8 0, .int .u8 0] 5), (B, .cells #[.bool v2, .int .u64 h2, .int .u64 l2, .int .u16 tp] 27), (A, .cells #[.bool v1, .int .u64 h1, .int .u64 l1, .int .u16 f] 27)] R 9 w (w1.alloc (.cells #[.int .u8 fl] 5)) := HS.out.made _
          refine wpAnyH_strong (S2 := fun u => HL [(w1.heap.size, .cells #[.int .u8 fl] 5), (g9, .cells #[.int .u8 0, .int .u8 0, .int .u8 0, .int .u8 0, .int .u8 0, .int .u8 0, .int .u8 0, .int .u8 0] 5), (B, .cells #[.bool v2, .int .u64 h2, .int .u64 l2, .int .u16 tp] 27), (A, .cells #[.bool v1, .int .u64 h1, .int .u64 l1, .int .u16 f] 27)] R 9 w u) (fun u hu => hu.tail) _ _ _ _ ?_
          clear hK K HS
          obtain ⟨g14, hgg⟩ : ∃ g, g = w1.heap.size := ⟨_, rfl⟩
          rw [← hgg] at hHeld ⊢
          obtain ⟨v14, hwn⟩ : ∃ x, x = (w1.alloc (.cells #[.int .u8 fl] 5)) := ⟨_, rfl⟩
          rw [← hwn] at hHeld ⊢
          clear hgg hwn
          try simp only [Act.put, List.getElem_toArray, List.getElem_cons_zero, List.getElem_cons_succ, List.setIfInBounds_toArray, List.set_cons_zero, List.set_cons_succ]
          refine wpAnyH_take (i := 15) (v := ?_) rfl (by kernel_rfl) (by kernel_rfl) (by kernel_rfl) (fun _ _ _ h => h) (Or.inl ⟨by rfl, ?_⟩) (by assumption) ?_
          rotate_left 1
          · (intro u hSw; have hcv := one_conv HX.out.2.2.2.2.2 (hSw.head); rw [← HX.out.2.2.1] at hcv; clear hSw; go_simp; try (with_reducible rfl))
          try simp only [Act.put, List.getElem_toArray, List.getElem_cons_zero, List.getElem_cons_succ, List.setIfInBounds_toArray, List.set_cons_zero, List.set_cons_succ]
          refine wpAnyH_take (i := 16) (v := ?_) rfl (by kernel_rfl) (by kernel_rfl) (by kernel_rfl) (fun _ _ _ h => h) (Or.inl ⟨by rfl, ?_⟩) (by assumption) ?_
          rotate_left 1
          · (intro u hSw; clear hSw; go_simp; try (with_reducible rfl))
          try simp only [Act.put, List.getElem_toArray, List.getElem_cons_zero, List.getElem_cons_succ, List.setIfInBounds_toArray, List.set_cons_zero, List.set_cons_succ]
          refine wpAnyH_take (i := 17) (v := ?_) rfl (by kernel_rfl) (by kernel_rfl) (by kernel_rfl) (fun _ _ _ h => h) (Or.inl ⟨by rfl, ?_⟩) (by assumption) ?_
          rotate_left 1
          · (intro u hSw; clear hSw; go_simp; try (with_reducible rfl))
          try simp only [Act.put, List.getElem_toArray, List.getElem_cons_zero, List.getElem_cons_succ, List.setIfInBounds_toArray, List.set_cons_zero, List.set_cons_succ]
          refine wpAnyH_take (i := 19) (v := ?_) rfl (by kernel_rfl) (by kernel_rfl) (by kernel_rfl) (fun _ _ _ h => h) (Or.inl ⟨by rfl, ?_⟩) (by assumption) ?_
          rotate_left 1
          · (intro u hSw; clear hSw; go_simp; try (with_reducible rfl))
          try simp only [Act.put, List.getElem_toArray, List.getElem_cons_zero, List.getElem_cons_succ, List.setIfInBounds_toArray, List.set_cons_zero, List.set_cons_succ]
          refine wpAnyH_take (i := 20) (v := ?_) rfl (by kernel_rfl) (by kernel_rfl) (by kernel_rfl) (fun _ _ _ h => h) (Or.inl ⟨by rfl, ?_⟩) (by assumption) ?_
          rotate_left 1
          · (intro u hSw; clear hSw; go_simp; try (with_reducible rfl))
          try simp only [Act.put, List.getElem_toArray, List.getElem_cons_zero, List.getElem_cons_succ, List.setIfInBounds_toArray, List.set_cons_zero, List.set_cons_succ]
          have HE := Lib.hid hHeld
          clear hHeld
          refine wpAnyH_done (by kernel_rfl) ?_ _
          try simp only [Act.put, List.getElem_toArray, List.getElem_cons_zero, List.getElem_cons_succ, List.setIfInBounds_toArray, List.set_cons_zero, List.set_cons_succ]
          have HE := Lib.hid HE.out.tail.tail
          have HCC := Lib.hid (And.intro (epCells HE.out.tail.head) (epCells HE.out.head))
          obtain ⟨⟨c0, c1, c2, c3⟩, ⟨d0, d1, d2, d3⟩⟩ := HCC.out
          clear c3 d3
          go_wp2_with fail
          refine (HC.out _).mono ?_
          rintro e w2 ⟨rfl, B2⟩
          simp only []
          have H2 := Lib.hid (HE.out.call B2)
          clear B2 c0 c1 c2 d0 d1 d2
          obtain ⟨cs, hcs, hR⟩ := H2.out.2.1
          have HR0 := Lib.hid (And.intro hcs hR)
          have HR := Lib.hid (H2.out.row (cs := M.cells))
          have HF := Lib.hid (H2.out.store (by simp only [List.mem_cons, List.not_mem_nil, or_false]; rintro x (rfl | rfl); exact HN.out.2.1; exact HN.out.1) HN.out.2.2 (cs := M.cells) rfl)
          clear hcs hR
          go_wp2_with (first | (refine Go.wpList_store_row rfl 30 _ _ rfl R M.cells rfl rfl 30 cs HR0.out.2 info30 HR0.out.1 (pkOne M) ?_))
          obtain ⟨w5, hw5⟩ : ∃ x, x = World.setRow w2 R M.cells := ⟨_, rfl⟩
          rw [← hw5] at HR HF ⊢
          have D5 : w5.heap[R]? = some (.cells #[.bool M.src.v6, .int .u64 M.src.hi, .int .u64 M.src.lo, .bool M.dst.v6, .int .u64 M.dst.hi, .int .u64 M.dst.lo, .int .u8 M.proto, .int .u8 M.ttl, .string M.data] 30) := HR.out
          obtain ⟨k0, k1, k2, k3, k4, k5, k6, k7, k8⟩ := pkCells D5
          clear D5 HR hw5
          refine bodyPost_ret (v := .tuple #[.agg #[.bool M.src.v6, .int .u64 M.src.hi, .int .u64 M.src.lo, .bool M.dst.v6, .int .u64 M.dst.hi, .int .u64 M.dst.lo, .int .u8 M.proto, .int .u8 M.ttl, .string M.data], .int .i64 E]) (by simp [results, Try.results11, go_sem, k0, k1, k2, k3, k4, k5, k6, k7, k8]) rfl ⟨rfl, HF.out.2.2⟩
        case mo5 =>
          refine AllReadyH.cons rfl (fun K hK => ?_) AllReadyH.nil
          have HS := Lib.hid hHeld
          clear hHeld
          go_simp
          refine hK.out _ (v9.alloc (.cells #[.int .u8 fl] 5)) (HS.out.alloc _) (fun hHeld => ?_)
          have hHeld : HL [(v9.heap.size, .cells #[.int .u8 fl] 5), (g9, .cells #[.int .u8 0, .int .u8 0, .int .u8 0, .int .u8 0, .int .u8 0, .int .u8 0, .int .u8 0, .int .u8 0] 5), (B, .cells #[.bool v2, .int .u64 h2, .int .u64 l2, .int .u16 tp] 27), (A, .cells #[.bool v1, .int .u64 h1, .int .u64 l1, .int .u16 f] 27)] R 9 w (v9.alloc (.cells #[.int .u8 fl] 5)) := HS.out.made _
          refine wpAnyH_strong (S2 := fun u => HL [(v9.heap.size, .cells #[.int .u8 fl] 5), (g9, .cells #[.int .u8 0, .int .u8 0, .int .u8 0, .int .u8 0, .int .u8 0, .int .u8 0, .int .u8 0, .int .u8 0] 5), (B, .cells #[.bool v2, .int .u64 h2, .int .u64 l2, .int .u16 tp] 27), (A, .cells #[.bool v1, .int .u64 h1, .int .u64 l1, .int .u16 f] 27)] R 9 w u) (fun u hu => hu.tail) _ _ _ _ ?_
          clear hK K HS
          obtain ⟨g14, hgg⟩ : ∃ g, g = v9.heap.size := ⟨_, rfl⟩
          rw [← hgg] at hHeld ⊢
          obtain ⟨v14, hwn⟩ : ∃ x, x = (v9.alloc (.cells #[.int .u8 fl] 5)) := ⟨_, rfl⟩
          rw [← hwn] at hHeld ⊢
          clear hgg hwn
          try simp only [Act.put, List.getElem_toArray, List.getElem_cons_zero, List.getElem_cons_succ, List.setIfInBounds_toArray, List.set_cons_zero, List.set_cons_succ]
          refine wpAnyH_take (i := 15) (v := ?_) rfl (by kernel_rfl) (by kernel_rfl) (by kernel_rfl) (fun _ _ _ h => h) (Or.inl ⟨by rfl, ?_⟩) (by assumption) ?_
          rotate_left 1
          · (intro u hSw; have hcv := one_conv HX.out.2.2.2.2.2 (hSw.head); rw [← HX.out.2.2.1] at hcv; clear hSw; go_simp; try (with_reducible rfl))
          try simp only [Act.put, List.getElem_toArray, List.getElem_cons_zero, List.getElem_cons_succ, List.setIfInBounds_toArray, List.set_cons_zero, List.set_cons_succ]
          refine wpAnyH_ready (rs := [7]) (by kernel_rfl) (by simp) ?_
          refine AllReadyH.cons rfl (fun K hK => ?_) AllReadyH.nil
          have HS := Lib.hid hHeld
          clear hHeld
          go_simp
          refine (num_any tp 2 _ HX.out.2.2.2.2.1 (by decide) (by decide)).mono ?_
          rintro e w1 ⟨rfl, B1⟩
          rw [← HX.out.2.1]
          simp only []
          refine hK.out _ _ (HS.out.call B1) (fun hHeld => ?_)
          clear hK K HS B1
          try simp only [Act.put, List.getElem_toArray, List.getElem_cons_zero, List.getElem_cons_succ, List.setIfInBounds_toArray, List.set_cons_zero, List.set_cons_succ]
          refine wpAnyH_take (i := 8) (v := ?_) rfl (by kernel_rfl) (by kernel_rfl) (by kernel_rfl) (fun _ _ _ h => h) (Or.inl ⟨by rfl, ?_⟩) (by assumption) ?_
          rotate_left 1
          · (intro u hSw; clear hSw; go_simp; try (with_reducible rfl))
          try simp only [Act.put, List.getElem_toArray, List.getElem_cons_zero, List.getElem_cons_succ, List.setIfInBounds_toArray, List.set_cons_zero, List.set_cons_succ]
          refine wpAnyH_take (i := 11) (v := ?_) rfl (by kernel_rfl) (by kernel_rfl) (by kernel_rfl) (fun _ _ _ h => h) (Or.inl ⟨by rfl, ?_⟩) (by assumption) ?_
          rotate_left 1
          · (intro u hSw; clear hSw; go_simp; try (with_reducible rfl))
          try simp only [Act.put, List.getElem_toArray, List.getElem_cons_zero, List.getElem_cons_succ, List.setIfInBounds_toArray, List.set_cons_zero, List.set_cons_succ]
          refine wpAnyH_take (i := 12) (v := ?_) rfl (by kernel_rfl) (by kernel_rfl) (by kernel_rfl) (fun _ _ _ h => h) (Or.inl ⟨by rfl, ?_⟩) (by assumption) ?_
          rotate_left 1
          · (intro u hSw; clear hSw; go_simp; try (with_reducible rfl))
          try simp only [Act.put, List.getElem_toArray, List.getElem_cons_zero, List.getElem_cons_succ, List.setIfInBounds_toArray, List.set_cons_zero, List.set_cons_succ]
          refine wpAnyH_take (i := 16) (v := ?_) rfl (by kernel_rfl) (by kernel_rfl) (by kernel_rfl) (fun _ _ _ h => h) (Or.inl ⟨by rfl, ?_⟩) (by assumption) ?_
          rotate_left 1
          · (intro u hSw; clear hSw; go_simp; try (with_reducible rfl))
          try simp only [Act.put, List.getElem_toArray, List.getElem_cons_zero, List.getElem_cons_succ, List.setIfInBounds_toArray, List.set_cons_zero, List.set_cons_succ]
          refine wpAnyH_take (i := 17) (v := ?_) rfl (by kernel_rfl) (by kernel_rfl) (by kernel_rfl) (fun _ _ _ h => h) (Or.inl ⟨by rfl, ?_⟩) (by assumption) ?_
          rotate_left 1
          · (intro u hSw; clear hSw; go_simp; try (with_reducible rfl))
          try simp only [Act.put, List.getElem_toArray, List.getElem_cons_zero, List.getElem_cons_succ, List.setIfInBounds_toArray, List.set_cons_zero, List.set_cons_succ]
          refine wpAnyH_take (i := 19) (v := ?_) rfl (by kernel_rfl) (by kernel_rfl) (by kernel_rfl) (fun _ _ _ h => h) (Or.inl ⟨by rfl, ?_⟩) (by assumption) ?_
          rotate_left 1
          · (intro u hSw; clear hSw; go_simp; try (with_reducible rfl))
          try simp only [Act.put, List.getElem_toArray, List.getElem_cons_zero, List.getElem_cons_succ, List.setIfInBounds_toArray, List.set_cons_zero, List.set_cons_succ]
          refine wpAnyH_take (i := 20) (v := ?_) rfl (by kernel_rfl) (by kernel_rfl) (by kernel_rfl) (fun _ _ _ h => h) (Or.inl ⟨by rfl, ?_⟩) (by assumption) ?_
          rotate_left 1
          · (intro u hSw; clear hSw; go_simp; try (with_reducible rfl))
          try simp only [Act.put, List.getElem_toArray, List.getElem_cons_zero, List.getElem_cons_succ, List.setIfInBounds_toArray, List.set_cons_zero, List.set_cons_succ]
          have HE := Lib.hid hHeld
          clear hHeld
          refine wpAnyH_done (by kernel_rfl) ?_ _
          try simp only [Act.put, List.getElem_toArray, List.getElem_cons_zero, List.getElem_cons_succ, List.setIfInBounds_toArray, List.set_cons_zero, List.set_cons_succ]
          have HE := Lib.hid HE.out.tail.tail
          have HCC := Lib.hid (And.intro (epCells HE.out.tail.head) (epCells HE.out.head))
          obtain ⟨⟨c0, c1, c2, c3⟩, ⟨d0, d1, d2, d3⟩⟩ := HCC.out
          clear c3 d3
          go_wp2_with fail
          refine (HC.out _).mono ?_
          rintro e w2 ⟨rfl, B2⟩
          simp only []
          have H2 := Lib.hid (HE.out.call B2)
          clear B2 c0 c1 c2 d0 d1 d2
          obtain ⟨cs, hcs, hR⟩ := H2.out.2.1
          have HR0 := Lib.hid (And.intro hcs hR)
          have HR := Lib.hid (H2.out.row (cs := M.cells))
          have HF := Lib.hid (H2.out.store (by simp only [List.mem_cons, List.not_mem_nil, or_false]; rintro x (rfl | rfl); exact HN.out.2.1; exact HN.out.1) HN.out.2.2 (cs := M.cells) rfl)
          clear hcs hR
          go_wp2_with (first | (refine Go.wpList_store_row rfl 30 _ _ rfl R M.cells rfl rfl 30 cs HR0.out.2 info30 HR0.out.1 (pkOne M) ?_))
          obtain ⟨w5, hw5⟩ : ∃ x, x = World.setRow w2 R M.cells := ⟨_, rfl⟩
          rw [← hw5] at HR HF ⊢
          have D5 : w5.heap[R]? = some (.cells #[.bool M.src.v6, .int .u64 M.src.hi, .int .u64 M.src.lo, .bool M.dst.v6, .int .u64 M.dst.hi, .int .u64 M.dst.lo, .int .u8 M.proto, .int .u8 M.ttl, .string M.data] 30) := HR.out
          obtain ⟨k0, k1, k2, k3, k4, k5, k6, k7, k8⟩ := pkCells D5
          clear D5 HR hw5
          refine bodyPost_ret (v := .tuple #[.agg #[.bool M.src.v6, .int .u64 M.src.hi, .int .u64 M.src.lo, .bool M.dst.v6, .int .u64 M.dst.hi, .int .u64 M.dst.lo, .int .u8 M.proto, .int .u8 M.ttl, .string M.data], .int .i64 E]) (by simp [results, Try.results11, go_sem, k0, k1, k2, k3, k4, k5, k6, k7, k8]) rfl ⟨rfl, HF.out.2.2⟩
      case mo4 =>
        refine AllReadyH.cons rfl (fun K hK => ?_) AllReadyH.nil
        have HS := Lib.hid hHeld
        clear hHeld
        go_simp
        refine hK.out _ (w1.alloc (.cells #[.int .u8 fl] 5)) (HS.out.alloc _) (fun hHeld => ?_)
        have hHeld : HL [(w1.heap.size, .cells #[.int .u8 fl] 5), (B, .cells #[.bool v2, .int .u64 h2, .int .u64 l2, .int .u16 tp] 27), (A, .cells #[.bool v1, .int .u64 h1, .int .u64 l1, .int .u16 f] 27)] R 9 w (w1.alloc (.cells #[.int .u8 fl] 5)) := HS.out.made _
        refine wpAnyH_strong (S2 := fun u => HL [(w1.heap.size, .cells #[.int .u8 fl] 5), (B, .cells #[.bool v2, .int .u64 h2, .int .u64 l2, .int .u16 tp] 27), (A, .cells #[.bool v1, .int .u64 h1, .int .u64 l1, .int .u16 f] 27)] R 9 w u) (fun u hu => hu.tail) _ _ _ _ ?_
        clear hK K HS
        obtain ⟨g14, hgg⟩ : ∃ g, g = w1.heap.size := ⟨_, rfl⟩
        rw [← hgg] at hHeld ⊢
        obtain ⟨v14, hwn⟩ : ∃ x, x = (w1.alloc (.cells #[.int .u8 fl] 5)) := ⟨_, rfl⟩
        rw [← hwn] at hHeld ⊢
        clear hgg hwn
        try simp only [Act.put, List.getElem_toArray, List.getElem_cons_zero, List.getElem_cons_succ, List.setIfInBounds_toArray, List.set_cons_zero, List.set_cons_succ]
        refine wpAnyH_take (i := 15) (v := ?_) rfl (by kernel_rfl) (by kernel_rfl) (by kernel_rfl) (fun _ _ _ h => h) (Or.inl ⟨by rfl, ?_⟩) (by assumption) ?_
        rotate_left 1
        · (intro u hSw; have hcv := one_conv HX.out.2.2.2.2.2 (hSw.head); rw [← HX.out.2.2.1] at hcv; clear hSw; go_simp; try (with_reducible rfl))
        try simp only [Act.put, List.getElem_toArray, List.getElem_cons_zero, List.getElem_cons_succ, List.setIfInBounds_toArray, List.set_cons_zero, List.set_cons_succ]
        refine wpAnyH_ready (rs := [7, 9]) (by kernel_rfl) (by simp) ?_
        refine AllReadyH.cons (i := 7) (o := ?o6) ?ho6 (fun K hK => ?st6) ?mo6
        case ho6 => rfl
        case st6 =>
          have HS := Lib.hid hHeld
          clear hHeld
          go_simp
          refine (num_any tp 2 _ HX.out.2.2.2.2.1 (by decide) (by decide)).mono ?_
          rintro e w1 ⟨rfl, B1⟩
          rw [← HX.out.2.1]
          simp only []
          refine hK.out _ _ (HS.out.call B1) (fun hHeld => ?_)
          clear hK K HS B1
          try simp only [Act.put, List.getElem_toArray, List.getElem_cons_zero, List.getElem_cons_succ, List.setIfInBounds_toArray, List.set_cons_zero, List.set_cons_succ]
          refine wpAnyH_take (i := 8) (v := ?_) rfl (by kernel_rfl) (by kernel_rfl) (by kernel_rfl) (fun _ _ _ h => h) (Or.inl ⟨by rfl, ?_⟩) (by assumption) ?_
          rotate_left 1
          · (intro u hSw; clear hSw; go_simp; try (with_reducible rfl))
          try simp only [Act.put, List.getElem_toArray, List.getElem_cons_zero, List.getElem_cons_succ, List.setIfInBounds_toArray, List.set_cons_zero, List.set_cons_succ]
          refine wpAnyH_ready (rs := [9]) (by kernel_rfl) (by simp) ?_
          refine AllReadyH.cons rfl (fun K hK => ?_) AllReadyH.nil
          have HS := Lib.hid hHeld
          clear hHeld
          have hmk : ∀ u, (Instr.makeSlice 37 (.int .i64 8) (.int .i64 8)).run Try.prog u = .ok (.slice (some ⟨u.heap.size, 0, none⟩) 8 8) (u.alloc (.cells #[.int .u8 0, .int .u8 0, .int .u8 0, .int .u8 0, .int .u8 0, .int .u8 0, .int .u8 0, .int .u8 0] 5)) := fun _ => by kernel_rfl
          go_simp
          refine hK.out _ (w1.alloc (.cells #[.int .u8 0, .int .u8 0, .int .u8 0, .int .u8 0, .int .u8 0, .int .u8 0, .int .u8 0, .int .u8 0] 5)) (HS.out.alloc _) (fun hHeld => ?_)
          have hHeld : HL [(w1.heap.size, .cells #[.int .u8 0, .int .u8 0, .int .u8 0, .int .u8 0, .int .u8 0, .int .u8 0, .int .u8 0, .int .u8 0] 5), (g14, .cells #[.int .u8 fl] 5), (B, .cells #[.bool v2, .int .u64 h2, .int .u64 l2, .int .u16 tp] 27), (A, .cells #[.bool v1, .int .u64 h1, .int .u64 l1, .int .u16 f] 27)] R 9 w (w1.alloc (.cells #[.int .u8 0, .int .u8 0, .int .u8 0, .int .u8 0, .int .u8 0, .int .u8 0, .int .u8 0, .int .u8 0] 5)) := HS.out.made _
          refine wpAnyH_strong (S2 := fun u => HL [(w1.heap.size, .cells #[.int .u8 0, .int .u8 0, .int .u8 0, .int .u8 0, .int .u8 0, .int .u8 0, .int .u8 0, .int .u8 0] 5), (g14, .cells #[.int .u8 fl] 5), (B, .cells #[.bool v2, .int .u64 h2, .int .u64 l2, .int .u16 tp] 27), (A, .cells #[.bool v1, .int .u64 h1, .int .u64 l1, .int .u16 f] 27)] R 9 w u) (fun u hu => hu.tail) _ _ _ _ ?_
          clear hK K HS
          obtain ⟨g9, hgg⟩ : ∃ g, g = w1.heap.size := ⟨_, rfl⟩
          rw [← hgg] at hHeld ⊢
          obtain ⟨v9, hwn⟩ : ∃ x, x = (w1.alloc (.cells #[.int .u8 0, .int .u8 0, .int .u8 0, .int .u8 0, .int .u8 0, .int .u8 0, .int .u8 0, .int .u8 0] 5)) := ⟨_, rfl⟩
          rw [← hwn] at hHeld ⊢
          clear hgg hwn
          try simp only [Act.put, List.getElem_toArray, List.getElem_cons_zero, List.getElem_cons_succ, List.setIfInBounds_toArray, List.set_cons_zero, List.set_cons_succ]
          refine wpAnyH_take (i := 10) (v := ?_) rfl (by kernel_rfl) (by kernel_rfl) (by kernel_rfl) (fun _ _ _ h => h) (Or.inl ⟨by rfl, ?_⟩) (by assumption) ?_
          rotate_left 1
          · (intro u hSw; have hcv := eight_conv (hSw.head); skip; clear hSw; go_simp; try (with_reducible rfl))
          try simp only [Act.put, List.getElem_toArray, List.getElem_cons_zero, List.getElem_cons_succ, List.setIfInBounds_toArray, List.set_cons_zero, List.set_cons_succ]
          refine wpAnyH_take (i := 11) (v := ?_) rfl (by kernel_rfl) (by kernel_rfl) (by kernel_rfl) (fun _ _ _ h => h) (Or.inl ⟨by rfl, ?_⟩) (by assumption) ?_
          rotate_left 1
          · (intro u hSw; clear hSw; go_simp; try (with_reducible rfl))
          try simp only [Act.put, List.getElem_toArray, List.getElem_cons_zero, List.getElem_cons_succ, List.setIfInBounds_toArray, List.set_cons_zero, List.set_cons_succ]
          refine wpAnyH_take (i := 12) (v := ?_) rfl (by kernel_rfl) (by kernel_rfl) (by kernel_rfl) (fun _ _ _ h => h) (Or.inl ⟨by rfl, ?_⟩) (by assumption) ?_
          rotate_left 1
          · (intro u hSw; clear hSw; go_simp; try (with_reducible rfl))
          try simp only [Act.put, List.getElem_toArray, List.getElem_cons_zero, List.getElem_cons_succ, List.setIfInBounds_toArray, List.set_cons_zero, List.set_cons_succ]
          refine wpAnyH_take (i := 16) (v := ?_) rfl (by kernel_rfl) (by kernel_rfl) (by kernel_rfl) (fun _ _ _ h => h) (Or.inl ⟨by rfl, ?_⟩) (by assumption) ?_
          rotate_left 1
          · (intro u hSw; clear hSw; go_simp; try (with_reducible rfl))
          try simp only [Act.put, List.getElem_toArray, List.getElem_cons_zero, List.getElem_cons_succ, List.setIfInBounds_toArray, List.set_cons_zero, List.set_cons_succ]
          refine wpAnyH_take (i := 17) (v := ?_) rfl (by kernel_rfl) (by kernel_rfl) (by kernel_rfl) (fun _ _ _ h => h) (Or.inl ⟨by rfl, ?_⟩) (by assumption) ?_
          rotate_left 1
          · (intro u hSw; clear hSw; go_simp; try (with_reducible rfl))
          try simp only [Act.put, List.getElem_toArray, List.getElem_cons_zero, List.getElem_cons_succ, List.setIfInBounds_toArray, List.set_cons_zero, List.set_cons_succ]
          refine wpAnyH_take (i := 19) (v := ?_) rfl (by kernel_rfl) (by kernel_rfl) (by kernel_rfl) (fun _ _ _ h => h) (Or.inl ⟨by rfl, ?_⟩) (by assumption) ?_
          rotate_left 1
          · (intro u hSw; clear hSw; go_simp; try (with_reducible rfl))
          try simp only [Act.put, List.getElem_toArray, List.getElem_cons_zero, List.getElem_cons_succ, List.setIfInBounds_toArray, List.set_cons_zero, List.set_cons_succ]
          refine wpAnyH_take (i := 20) (v := ?_) rfl (by kernel_rfl) (by kernel_rfl) (by kernel_rfl) (fun _ _ _ h => h) (Or.inl ⟨by rfl, ?_⟩) (by assumption) ?_
          rotate_left 1
          · (intro u hSw; clear hSw; go_simp; try (with_reducible rfl))
          try simp only [Act.put, List.getElem_toArray, List.getElem_cons_zero, List.getElem_cons_succ, List.setIfInBounds_toArray, List.set_cons_zero, List.set_cons_succ]
          have HE := Lib.hid hHeld
          clear hHeld
          refine wpAnyH_done (by kernel_rfl) ?_ _
          try simp only [Act.put, List.getElem_toArray, List.getElem_cons_zero, List.getElem_cons_succ, List.setIfInBounds_toArray, List.set_cons_zero, List.set_cons_succ]
          have HE := Lib.hid HE.out.tail.tail
          have HCC := Lib.hid (And.intro (epCells HE.out.tail.head) (epCells HE.out.head))
          obtain ⟨⟨c0, c1, c2, c3⟩, ⟨d0, d1, d2, d3⟩⟩ := HCC.out
          clear c3 d3
          go_wp2_with fail
          refine (HC.out _).mono ?_
          rintro e w2 ⟨rfl, B2⟩
          simp only []
          have H2 := Lib.hid (HE.out.call B2)
          clear B2 c0 c1 c2 d0 d1 d2
          obtain ⟨cs, hcs, hR⟩ := H2.out.2.1
          have HR0 := Lib.hid (And.intro hcs hR)
          have HR := Lib.hid (H2.out.row (cs := M.cells))
          have HF := Lib.hid (H2.out.store (by simp only [List.mem_cons, List.not_mem_nil, or_false]; rintro x (rfl | rfl); exact HN.out.2.1; exact HN.out.1) HN.out.2.2 (cs := M.cells) rfl)
          clear hcs hR
          go_wp2_with (first | (refine Go.wpList_store_row rfl 30 _ _ rfl R M.cells rfl rfl 30 cs HR0.out.2 info30 HR0.out.1 (pkOne M) ?_))
          obtain ⟨w5, hw5⟩ : ∃ x, x = World.setRow w2 R M.cells := ⟨_, rfl⟩
          rw [← hw5] at HR HF ⊢
          have D5 : w5.heap[R]? = some (.cells #[.bool M.src.v6, .int .u64 M.src.hi, .int .u64 M.src.lo, .bool M.dst.v6, .int .u64 M.dst.hi, .int .u64 M.dst.lo, .int .u8 M.proto, .int .u8 M.ttl, .string M.data] 30) := HR.out
          obtain ⟨k0, k1, k2, k3, k4, k5, k6, k7, k8⟩ := pkCells D5
          clear D5 HR hw5
          refine bodyPost_ret (v := .tuple #[.agg #[.bool M.src.v6, .int .u64 M.src.hi, .int .u64 M.src.lo, .bool M.dst.v6, .int .u64 M.dst.hi, .int .u64 M.dst.lo, .int .u8 M.proto, .int .u8 M.ttl, .string M.data], .int .i64 E]) (by simp [results, Try.results11, go_sem, k0, k1, k2, k3, k4, k5, k6, k7, k8]) rfl ⟨rfl, HF.out.2.2⟩
        case mo6 =>
          refine AllReadyH.cons rfl (fun K hK => ?_) AllReadyH.nil
          have HS := Lib.hid hHeld
          clear hHeld
          have hmk : ∀ u, (Instr.makeSlice 37 (.int .i64 8) (.int .i64 8)).run Try.prog u = .ok (.slice (some ⟨u.heap.size, 0, none⟩) 8 8) (u.alloc (.cells #[.int .u8 0, .int .u8 0, .int .u8 0, .int .u8 0, .int .u8 0, .int .u8 0, .int .u8 0, .int .u8 0] 5)) := fun _ => by kernel_rfl
          go_simp
          refine hK.out _ (v14.alloc (.cells #[.int .u8 0, .int .u8 0, .int .u8 0, .int .u8 0, .int .u8 0, .int .u8 0, .int .u8 0, .int .u8 0] 5)) (HS.out.alloc _) (fun hHeld => ?_)
          have hHeld : HL [(v14.heap.size, .cells #[.int .u8 0, .int .u8 0, .int .u8 0, .int .u8 0, .int .u8 0, .int .u8 0, .int .u8 0, .int .u8 0] 5), (g14, .cells #[.int .u8 fl] 5), (B, .cells #[.bool v2, .int .u64 h2, .int .u64 l2, .int .u16 tp] 27), (A, .cells #[.bool v1, .int .u64 h1, .int .u64 l1, .int .u16 f] 27)] R 9 w (v14.alloc (.cells #[.int .u8 0, .int .u8 0, .int .u8 0, .int .u8 0, .int .u8 0, .int .u8 0, .int .u8 0, .int .u8 0] 5)) := HS.out.made _
          refine wpAnyH_strong (S2 := fun u => HL [(v14.heap.size, .cells #[.int .u8 0, .int .u8 0, .int .u8 0, .int .u8 0, .int .u8 0, .int .u8 0, .int .u8 0, .int .u8 0] 5), (g14, .cells #[.int .u8 fl] 5), (B, .cells #[.bool v2, .int .u64 h2, .int .u64 l2, .int .u16 tp] 27), (A, .cells #[.bool v1, .int .u64 h1, .int .u64 l1, .int .u16 f] 27)] R 9 w u) (fun u hu => hu.tail) _ _ _ _ ?_
          clear hK K HS
          obtain ⟨g9, hgg⟩ : ∃ g, g = v14.heap.size := ⟨_, rfl⟩
          rw [← hgg] at hHeld ⊢
          obtain ⟨v9, hwn⟩ : ∃ x, x = (v14.alloc (.cells #[.int .u8 0, .int .u8 0, .int .u8 0, .int .u8 0, .int .u8 0, .int .u8 0, .int .u8 0, .int .u8 0] 5)) := ⟨_, rfl⟩
          rw [← hwn] at hHeld ⊢
          clear hgg hwn
          try simp only [Act.put, List.getElem_toArray, List.getElem_cons_zero, List.getElem_cons_succ, List.setIfInBounds_toArray, List.set_cons_zero, List.set_cons_succ]
          refine wpAnyH_take (i := 10) (v := ?_) rfl (by kernel_rfl) (by kernel_rfl) (by kernel_rfl) (fun _ _ _ h => h) (Or.inl ⟨by rfl, ?_⟩) (by assumption) ?_
          rotate_left 1
          · (intro u hSw; have hcv := eight_conv (hSw.head); skip; clear hSw; go_simp; try (with_reducible rfl))
          try simp only [Act.put, List.getElem_toArray, List.getElem_cons_zero, List.getElem_cons_succ, List.setIfInBounds_toArray, List.set_cons_zero, List.set_cons_succ]
          refine wpAnyH_ready (rs := [7]) (by kernel_rfl) (by simp) ?_
          refine AllReadyH.cons rfl (fun K hK => ?_) AllReadyH.nil
          have HS := Lib.hid hHeld
          clear hHeld
          go_simp
          refine (num_any tp 2 _ HX.out.2.2.2.2.1 (by decide) (by decide)).mono ?_
          rintro e w1 ⟨rfl, B1⟩
          rw [← HX.out.2.1]
          simp only []
          refine hK.out _ _ (HS.out.call B1) (fun hHeld => ?_)
          clear hK K HS B1
          try simp only [Act.put, List.getElem_toArray, List.getElem_cons_zero, List.getElem_cons_succ, List.setIfInBounds_toArray, List.set_cons_zero, List.set_cons_succ]
          refine wpAnyH_take (i := 8) (v := ?_) rfl (by kernel_rfl) (by kernel_rfl) (by kernel_rfl) (fun _ _ _ h => h) (Or.inl ⟨by rfl, ?_⟩) (by assumption) ?_
          rotate_left 1
          · (intro u hSw; clear hSw; go_simp; try (with_reducible rfl))
          try simp only [Act.put, List.getElem_toArray, List.getElem_cons_zero, List.getElem_cons_succ, List.setIfInBounds_toArray, List.set_cons_zero, List.set_cons_succ]
          refine wpAnyH_take (i := 11) (v := ?_) rfl (by kernel_rfl) (by kernel_rfl) (by kernel_rfl) (fun _ _ _ h => h) (Or.inl ⟨by rfl, ?_⟩) (by assumption) ?_
          rotate_left 1
          · (intro u hSw; clear hSw; go_simp; try (with_reducible rfl))
          try simp only [Act.put, List.getElem_toArray, List.getElem_cons_zero, List.getElem_cons_succ, List.setIfInBounds_toArray, List.set_cons_zero, List.set_cons_succ]
          refine wpAnyH_take (i := 12) (v := ?_) rfl (by kernel_rfl) (by kernel_rfl) (by kernel_rfl) (fun _ _ _ h => h) (Or.inl ⟨by rfl, ?_⟩) (by assumption) ?_
          rotate_left 1
          · (intro u hSw; clear hSw; go_simp; try (with_reducible rfl))
          try simp only [Act.put, List.getElem_toArray, List.getElem_cons_zero, List.getElem_cons_succ, List.setIfInBounds_toArray, List.set_cons_zero, List.set_cons_succ]
          refine wpAnyH_take (i := 16) (v := ?_) rfl (by kernel_rfl) (by kernel_rfl) (by kernel_rfl) (fun _ _ _ h => h) (Or.inl ⟨by rfl, ?_⟩) (by assumption) ?_
          rotate_left 1
          · (intro u hSw; clear hSw; go_simp; try (with_reducible rfl))
          try simp only [Act.put, List.getElem_toArray, List.getElem_cons_zero, List.getElem_cons_succ, List.setIfInBounds_toArray, List.set_cons_zero, List.set_cons_succ]
          refine wpAnyH_take (i := 17) (v := ?_) rfl (by kernel_rfl) (by kernel_rfl) (by kernel_rfl) (fun _ _ _ h => h) (Or.inl ⟨by rfl, ?_⟩) (by assumption) ?_
          rotate_left 1
          · (intro u hSw; clear hSw; go_simp; try (with_reducible rfl))
          try simp only [Act.put, List.getElem_toArray, List.getElem_cons_zero, List.getElem_cons_succ, List.setIfInBounds_toArray, List.set_cons_zero, List.set_cons_succ]
          refine wpAnyH_take (i := 19) (v := ?_) rfl (by kernel_rfl) (by kernel_rfl) (by kernel_rfl) (fun _ _ _ h => h) (Or.inl ⟨by rfl, ?_⟩) (by assumption) ?_
          rotate_left 1
          · (intro u hSw; clear hSw; go_simp; try (with_reducible rfl))
          try simp only [Act.put, List.getElem_toArray, List.getElem_cons_zero, List.getElem_cons_succ, List.setIfInBounds_toArray, List.set_cons_zero, List.set_cons_succ]
          refine wpAnyH_take (i := 20) (v := ?_) rfl (by kernel_rfl) (by kernel_rfl) (by kernel_rfl) (fun _ _ _ h => h) (Or.inl ⟨by rfl, ?_⟩) (by assumption) ?_
          rotate_left 1
          · (intro u hSw; clear hSw; go_simp; try (with_reducible rfl))
          try simp only [Act.put, List.getElem_toArray, List.getElem_cons_zero, List.getElem_cons_succ, List.setIfInBounds_toArray, List.set_cons_zero, List.set_cons_succ]
          have HE := Lib.hid hHeld
          clear hHeld
          refine wpAnyH_done (by kernel_rfl) ?_ _
          try simp only [Act.put, List.getElem_toArray, List.getElem_cons_zero, List.getElem_cons_succ, List.setIfInBounds_toArray, List.set_cons_zero, List.set_cons_succ]
          have HE := Lib.hid HE.out.tail.tail
          have HCC := Lib.hid (And.intro (epCells HE.out.tail.head) (epCells HE.out.head))
          obtain ⟨⟨c0, c1, c2, c3⟩, ⟨d0, d1, d2, d3⟩⟩ := HCC.out
          clear c3 d3
          go_wp2_with fail
          refine (HC.out _).mono ?_
          rintro e w2 ⟨rfl, B2⟩
          simp only []
          have H2 := Lib.hid (HE.out.call B2)
          clear B2 c0 c1 c2 d0 d1 d2
          obtain ⟨cs, hcs, hR⟩ := H2.out.2.1
          have HR0 := Lib.hid (And.intro hcs hR)
          have HR := Lib.hid (H2.out.row (cs := M.cells))
          have HF := Lib.hid (H2.out.store (by simp only [List.mem_cons, List.not_mem_nil, or_false]; rintro x (rfl | rfl); exact HN.out.2.1; exact HN.out.1) HN.out.2.2 (cs := M.cells) rfl)
          clear hcs hR
          go_wp2_with (first | (refine Go.wpList_store_row rfl 30 _ _ rfl R M.cells rfl rfl 30 cs HR0.out.2 info30 HR0.out.1 (pkOne M) ?_))
          obtain ⟨w5, hw5⟩ : ∃ x, x = World.setRow w2 R M.cells := ⟨_, rfl⟩
          rw [← hw5] at HR HF ⊢
          have D5 : w5.heap[R]? = some (.cells #[.bool M.src.v6, .int .u64 M.src.hi, .int .u64 M.src.lo, .bool M.dst.v6, .int .u64 M.dst.hi, .int .u64 M.dst.lo, .int .u8 M.proto, .int .u8 M.ttl, .string M.data] 30) := HR.out
          obtain ⟨k0, k1, k2, k3, k4, k5, k6, k7, k8⟩ := pkCells D5
          clear D5 HR hw5
          refine bodyPost_ret (v := .tuple #[.agg #[.bool M.src.v6, .int .u64 M.src.hi, .int .u64 M.src.lo, .bool M.dst.v6, .int .u64 M.dst.hi, .int .u64 M.dst.lo, .int .u8 M.proto, .int .u8 M.ttl, .string M.data], .int .i64 E]) (by simp [results, Try.results11, go_sem, k0, k1, k2, k3, k4, k5, k6, k7, k8]) rfl ⟨rfl, HF.out.2.2⟩
  case mo1 =>
    refine AllReadyH.cons (i := 9) (o := ?o7) ?ho7 (fun K hK => ?st7) ?mo7
    case ho7 => rfl
    case st7 =>
      have HS := Lib.hid hHeld
      clear hHeld
      have hmk : ∀ u, (Instr.makeSlice 37 (.int .i64 8) (.int .i64 8)).run Try.prog u = .ok (.slice (some ⟨u.heap.size, 0, none⟩) 8 8) (u.alloc (.cells #[.int .u8 0, .int .u8 0, .int .u8 0, .int .u8 0, .int .u8 0, .int .u8 0, .int .u8 0, .int .u8 0] 5)) := fun _ => by kernel_rfl
      go_simp
      refine hK.out _ (w0.alloc (.cells #[.int .u8 0, .int .u8 0, .int .u8 0, .int .u8 0, .int .u8 0, .int .u8 0, .int .u8 0, .int .u8 0] 5)).drew (HS.out.alloc _) (fun hHeld => ?_)
      have hHeld : HL [(w0.heap.size, .cells #[.int .u8 0, .int .u8 0, .int .u8 0, .int .u8 0, .int .u8 0, .int .u8 0, .int .u8 0, .int .u8 0] 5), (B, .cells #[.bool v2, .int .u64 h2, .int .u64 l2, .int .u16 tp] 27), (A, .cells #[.bool v1, .int .u64 h1, .int .u64 l1, .int .u16 f] 27)] R 9 w (w0.alloc (.cells #[.int .u8 0, .int .u8 0, .int .u8 0, .int .u8 0, .int .u8 0, .int .u8 0, .int .u8 0, .int .u8 0] 5)).drew := HS.out.made _
      refine wpAnyH_strong (S2 := fun u => HL [(w0.heap.size, .cells #[.int .u8 0, .int .u8 0, .int .u8 0, .int .u8 0, .int .u8 0, .int .u8 0, .int .u8 0, .int .u8 0] 5), (B, .cells #[.bool v2, .int .u64 h2, .int .u64 l2, .int .u16 tp] 27), (A, .cells #[.bool v1, .int .u64 h1, .int .u64 l1, .int .u16 f] 27)] R 9 w u) (fun u hu => hu.tail) _ _ _ _ ?_
      clear hK K HS
      obtain ⟨g9, hgg⟩ : ∃ g, g = w0.heap.size := ⟨_, rfl⟩
      rw [← hgg] at hHeld ⊢
      obtain ⟨v9, hwn⟩ : ∃ x, x = (w0.alloc (.cells #[.int .u8 0, .int .u8 0, .int .u8 0, .int .u8 0, .int .u8 0, .int .u8 0, .int .u8 0, .int .u8 0] 5)).drew := ⟨_, rfl⟩
      rw [← hwn] at hHeld ⊢
      clear hgg hwn
      try simp only [Act.put, List.getElem_toArray, List.getElem_cons_zero, List.getElem_cons_succ, List.setIfInBounds_toArray, List.set_cons_zero, List.set_cons_succ]
      refine wpAnyH_take (i := 10) (v := ?_) rfl (by kernel_rfl) (by kernel_rfl) (by kernel_rfl) (fun _ _ _ h => h) (Or.inl ⟨by rfl, ?_⟩) (by assumption) ?_
      rotate_left 1
      · (intro u hSw; have hcv := eight_conv (hSw.head); skip; clear hSw; go_simp; try (with_reducible rfl))
      try simp only [Act.put, List.getElem_toArray, List.getElem_cons_zero, List.getElem_cons_succ, List.setIfInBounds_toArray, List.set_cons_zero, List.set_cons_succ]
      refine wpAnyH_ready (rs := [3, 14]) (by kernel_rfl) (by simp) ?_
      refine AllReadyH.cons (i := 3) (o := ?o8) ?ho8 (fun K hK => ?st8) ?mo8
      case ho8 => rfl
      case st8 =>
        have HS := Lib.hid hHeld
        clear hHeld
        go_simp
        refine (num_any f 2 _ HX.out.2.2.2.1 (by decide) (by decide)).mono ?_
        rintro e w1 ⟨rfl, B1⟩
        rw [← HX.out.1]
        simp only []
        refine hK.out _ _ (HS.out.call B1) (fun hHeld => ?_)
        clear hK K HS B1
        try simp only [Act.put, List.getElem_toArray, List.getElem_cons_zero, List.getElem_cons_succ, List.setIfInBounds_toArray, List.set_cons_zero, List.set_cons_succ]
        refine wpAnyH_ready (rs := [7, 14]) (by kernel_rfl) (by simp) ?_
        refine AllReadyH.cons (i := 7) (o := ?o9) ?ho9 (fun K hK => ?st9) ?mo9
        case ho9 => rfl
        case st9 =>
          have HS := Lib.hid hHeld
          clear hHeld
          go_simp
          refine (num_any tp 2 _ HX.out.2.2.2.2.1 (by decide) (by decide)).mono ?_
          rintro e w1 ⟨rfl, B1⟩
          rw [← HX.out.2.1]
          simp only []
          refine hK.out _ _ (HS.out.call B1) (fun hHeld => ?_)
          clear hK K HS B1
          try simp only [Act.put, List.getElem_toArray, List.getElem_cons_zero, List.getElem_cons_succ, List.setIfInBounds_toArray, List.set_cons_zero, List.set_cons_succ]
          refine wpAnyH_take (i := 8) (v := ?_) rfl (by kernel_rfl) (by kernel_rfl) (by kernel_rfl) (fun _ _ _ h => h) (Or.inl ⟨by rfl, ?_⟩) (by assumption) ?_
          rotate_left 1
          · (intro u hSw; clear hSw; go_simp; try (with_reducible rfl))
          try simp only [Act.put, List.getElem_toArray, List.getElem_cons_zero, List.getElem_cons_succ, List.setIfInBounds_toArray, List.set_cons_zero, List.set_cons_succ]
          refine wpAnyH_take (i := 11) (v := ?_) rfl (by kernel_rfl) (by kernel_rfl) (by kernel_rfl) (fun _ _ _ h => h) (Or.inl ⟨by rfl, ?_⟩) (by assumption) ?_
          rotate_left 1
          · (intro u hSw; clear hSw; go_simp; try (with_reducible rfl))
          try simp only [Act.put, List.getElem_toArray, List.getElem_cons_zero, List.getElem_cons_succ, List.setIfInBounds_toArray, List.set_cons_zero, List.set_cons_succ]
          refine wpAnyH_take (i := 12) (v := ?_) rfl (by kernel_rfl) (by kernel_rfl) (by kernel_rfl) (fun _ _ _ h => h) (Or.inl ⟨by rfl, ?_⟩) (by assumption) ?_
          rotate_left 1
          · (intro u hSw; clear hSw; go_simp; try (with_reducible rfl))
          try simp only [Act.put, List.getElem_toArray, List.getElem_cons_zero, List.getElem_cons_succ, List.setIfInBounds_toArray, List.set_cons_zero, List.set_cons_succ]
          refine wpAnyH_ready (rs := [14]) (by kernel_rfl) (by simp) ?_
          refine AllReadyH.cons rfl (fun K hK => ?_) AllReadyH.nil
          have HS := Lib.hid hHeld
          clear hHeld
          go_simp
          refine hK.out _ (w1.alloc (.cells #[.int .u8 fl] 5)) (HS.out.alloc _) (fun hHeld => ?_)
          have hHeld : HL [(w1.heap.size, .cells #[.int .u8 fl] 5), (g9, .cells #[.int .u8 0, .int .u8 0, .int .u8 0, .int .u8 0, .int .u8 0, .int .u8 0, .int .u8 0, .int .u8 0] 5), (B, .cells #[.bool v2, .int .u64 h2, .int .u64 l2, .int .u16 tp] 27), (A, .cells #[.bool v1, .int .u64 h1, .int .u64 l1, .int .u16 f] 27)] R 9 w (w1.alloc (.cells #[.int .u8 fl] 5)) := HS.out.made _
          refine wpAnyH_strong (S2 := fun u => HL [(w1.heap.size, .cells #[.int .u8 fl] 5), (g9, .cells #[.int .u8 0, .int .u8 0, .int .u8 0, .int .u8 0, .int .u8 0, .int .u8 0, .int .u8 0, .int .u8 0] 5), (B, .cells #[.bool v2, .int .u64 h2, .int .u64 l2, .int .u16 tp] 27), (A, .cells #[.bool v1, .int .u64 h1, .int .u64 l1, .int .u16 f] 27)] R 9 w u) (fun u hu => hu.tail) _ _ _ _ ?_
          clear hK K HS
          obtain ⟨g14, hgg⟩ : ∃ g, g = w1.heap.size := ⟨_, rfl⟩
          rw [← hgg] at hHeld ⊢
          obtain ⟨v14, hwn⟩ : ∃ x, x = (w1.alloc (.cells #[.int .u8 fl] 5)) := ⟨_, rfl⟩
          rw [← hwn] at hHeld ⊢
          clear hgg hwn
          try simp only [Act.put, List.getElem_toArray, List.getElem_cons_zero, List.getElem_cons_succ, List.setIfInBounds_toArray, List.set_cons_zero, List.set_cons_succ]
          refine wpAnyH_take (i := 15) (v := ?_) rfl (by kernel_rfl) (by kernel_rfl) (by kernel_rfl) (fun _ _ _ h => h) (Or.inl ⟨by rfl, ?_⟩) (by assumption) ?_
          rotate_left 1
          · (intro u hSw; have hcv := one_conv HX.out.2.2.2.2.2 (hSw.head); rw [← HX.out.2.2.1] at hcv; clear hSw; go_simp; try (with_reducible rfl))
          try simp only [Act.put, List.getElem_toArray, List.getElem_cons_zero, List.getElem_cons_succ, List.setIfInBounds_toArray, List.set_cons_zero, List.set_cons_succ]
          refine wpAnyH_take (i := 16) (v := ?_) rfl (by kernel_rfl) (by kernel_rfl) (by kernel_rfl) (fun _ _ _ h => h) (Or.inl ⟨by rfl, ?_⟩) (by assumption) ?_
          rotate_left 1
          · (intro u hSw; clear hSw; go_simp; try (with_reducible rfl))
          try simp only [Act.put, List.getElem_toArray, List.getElem_cons_zero, List.getElem_cons_succ, List.setIfInBounds_toArray, List.set_cons_zero, List.set_cons_succ]
          refine wpAnyH_take (i := 17) (v := ?_) rfl (by kernel_rfl) (by kernel_rfl) (by kernel_rfl) (fun _ _ _ h => h) (Or.inl ⟨by rfl, ?_⟩) (by assumption) ?_
          rotate_left 1
          · (intro u hSw; clear hSw; go_simp; try (with_reducible rfl))
          try simp only [Act.put, List.getElem_toArray, List.getElem_cons_zero, List.getElem_cons_succ, List.setIfInBounds_toArray, List.set_cons_zero, List.set_cons_succ]
          refine wpAnyH_take (i := 19) (v := ?_) rfl (by kernel_rfl) (by kernel_rfl) (by kernel_rfl) (fun _ _ _ h => h) (Or.inl ⟨by rfl, ?_⟩) (by assumption) ?_
          rotate_left 1
          · (intro u hSw; clear hSw; go_simp; try (with_reducible rfl))
          try simp only [Act.put, List.getElem_toArray, List.getElem_cons_zero, List.getElem_cons_succ, List.setIfInBounds_toArray, List.set_cons_zero, List.set_cons_succ]
          refine wpAnyH_take (i := 20) (v := ?_) rfl (by kernel_rfl) (by kernel_rfl) (by kernel_rfl) (fun _ _ _ h => h) (Or.inl ⟨by rfl, ?_⟩) (by assumption) ?_
          rotate_left 1
          · (intro u hSw; clear hSw; go_simp; try (with_reducible rfl))
          try simp only [Act.put, List.getElem_toArray, List.getElem_cons_zero, List.getElem_cons_succ, List.setIfInBounds_toArray, List.set_cons_zero, List.set_cons_succ]
          have HE := Lib.hid hHeld
          clear hHeld
          refine wpAnyH_done (by kernel_rfl) ?_ _
          try simp only [Act.put, List.getElem_toArray, List.getElem_cons_zero, List.getElem_cons_succ, List.setIfInBounds_toArray, List.set_cons_zero, List.set_cons_succ]
          have HE := Lib.hid HE.out.tail.tail
          have HCC := Lib.hid (And.intro (epCells HE.out.tail.head) (epCells HE.out.head))
          obtain ⟨⟨c0, c1, c2, c3⟩, ⟨d0, d1, d2, d3⟩⟩ := HCC.out
          clear c3 d3
          go_wp2_with fail
          refine (HC.out _).mono ?_
          rintro e w2 ⟨rfl, B2⟩
          simp only []
          have H2 := Lib.hid (HE.out.call B2)
          clear B2 c0 c1 c2 d0 d1 d2
          obtain ⟨cs, hcs, hR⟩ := H2.out.2.1
          have HR0 := Lib.hid (And.intro hcs hR)
          have HR := Lib.hid (H2.out.row (cs := M.cells))
          have HF := Lib.hid (H2.out.store (by simp only [List.mem_cons, List.not_mem_nil, or_false]; rintro x (rfl | rfl); exact HN.out.2.1; exact HN.out.1) HN.out.2.2 (cs := M.cells) rfl)
          clear hcs hR
          go_wp2_with (first | (refine Go.wpList_store_row rfl 30 _ _ rfl R M.cells rfl rfl 30 cs HR0.out.2 info30 HR0.out.1 (pkOne M) ?_))
          obtain ⟨w5, hw5⟩ : ∃ x, x = World.setRow w2 R M.cells := ⟨_, rfl⟩
          rw [← hw5] at HR HF ⊢
          have D5 : w5.heap[R]? = some (.cells #[.bool M.src.v6, .int .u64 M.src.hi, .int .u64 M.src.lo, .bool M.dst.v6, .int .u64 M.dst.hi, .int .u64 M.dst.lo, .int .u8 M.proto, .int .u8 M.ttl, .string M.data] 30) := HR.out
          obtain ⟨k0, k1, k2, k3, k4, k5, k6, k7, k8⟩ := pkCells D5
          clear D5 HR hw5
          refine bodyPost_ret (v := .tuple #[.agg #[.bool M.src.v6, .int .u64 M.src.hi, .int .u64 M.src.lo, .bool M.dst.v6, .int .u64 M.dst.hi, .int .u64 M.dst.lo, .int .u8 M.proto, .int .u8 M.ttl, .string M.data], .int .i64 E]) (by simp [results, Try.results11, go_sem, k0, k1, k2, k3, k4, k5, k6, k7, k8]) rfl ⟨rfl, HF.out.2.2⟩
        case mo9 =>
          refine AllReadyH.cons rfl (fun K hK => ?_) AllReadyH.nil
          have HS := Lib.hid hHeld
          clear hHeld
          go_simp
          refine hK.out _ (w1.alloc (.cells #[.int .u8 fl] 5)) (HS.out.alloc _) (fun hHeld => ?_)
          have hHeld : HL [(w1.heap.size, .cells #[.int .u8 fl] 5), (g9, .cells #[.int .u8 0, .int .u8 0, .int .u8 0, .int .u8 0, .int .u8 0, .int .u8 0, .int .u8 0, .int .u8 0] 5), (B, .cells #[.bool v2, .int .u64 h2, .int .u64 l2, .int .u16 tp] 27), (A, .cells #[.bool v1, .int .u64 h1, .int .u64 l1, .int .u16 f] 27)] R 9 w (w1.alloc (.cells #[.int .u8 fl] 5)) := HS.out.made _
          refine wpAnyH_strong (S2 := fun u => HL [(w1.heap.size, .cells #[.int .u8 fl] 5), (g9, .cells #[.int .u8 0, .int .u8 0, .int .u8 0, .int .u8 0, .int .u8 0, .int .u8 0, .int .u8 0, .int .u8 0] 5), (B, .cells #[.bool v2, .int .u64 h2, .int .u64 l2, .int .u16 tp] 27), (A, .cells #[.bool v1, .int .u64 h1, .int .u64 l1, .int .u16 f] 27)] R 9 w u) (fun u hu => hu.tail) _ _ _ _ ?_
          clear hK K HS
          obtain ⟨g14, hgg⟩ : ∃ g, g = w1.heap.size := ⟨_, rfl⟩
          rw [← hgg] at hHeld ⊢
          obtain ⟨v14, hwn⟩ : ∃ x, x = (w1.alloc (.cells #[.int .u8 fl] 5)) := ⟨_, rfl⟩
          rw [← hwn] at hHeld ⊢
          clear hgg hwn
          try simp only [Act.put, List.getElem_toArray, List.getElem_cons_zero, List.getElem_cons_succ, List.setIfInBounds_toArray, List.set_cons_zero, List.set_cons_succ]
          refine wpAnyH_take (i := 15) (v := ?_) rfl (by kernel_rfl) (by kernel_rfl) (by kernel_rfl) (fun _ _ _ h => h) (Or.inl ⟨by rfl, ?_⟩) (by assumption) ?_
          rotate_left 1
          · (intro u hSw; have hcv := one_conv HX.out.2.2.2.2.2 (hSw.head); rw [← HX.out.2.2.1] at hcv; clear hSw; go_simp; try (with_reducible rfl))
          try simp only [Act.put, List.getElem_toArray, List.getElem_cons_zero, List.getElem_cons_succ, List.setIfInBounds_toArray, List.set_cons_zero, List.set_cons_succ]
          refine wpAnyH_ready (rs := [7]) (by kernel_rfl) (by simp) ?_
          refine AllReadyH.cons rfl (fun K hK => ?_) AllReadyH.nil
          have HS := Lib.hid hHeld
          clear hHeld
          go_simp
          refine (num_any tp 2 _ HX.out.2.2.2.2.1 (by decide) (by decide)).mono ?_
          rintro e w1 ⟨rfl, B1⟩
          rw [← HX.out.2.1]
          simp only []
          refine hK.out _ _ (HS.out.call B1) (fun hHeld => ?_)
          clear hK K HS B1
          try simp only [Act.put, List.getElem_toArray, List.getElem_cons_zero, List.getElem_cons_succ, List.setIfInBounds_toArray, List.set_cons_zero, List.set_cons_succ]
          refine wpAnyH_take (i := 8) (v := ?_) rfl (by kernel_rfl) (by kernel_rfl) (by kernel_rfl) (fun _ _ _ h => h) (Or.inl ⟨by rfl, ?_⟩) (by assumption) ?_
          rotate_left 1
          · (intro u hSw; clear hSw; go_simp; try (with_reducible rfl))
          try simp only [Act.put, List.getElem_toArray, List.getElem_cons_zero, List.getElem_cons_succ, List.setIfInBounds_toArray, List.set_cons_zero, List.set_cons_succ]
          refine wpAnyH_take (i := 11) (v := ?_) rfl (by kernel_rfl) (by kernel_rfl) (by kernel_rfl) (fun _ _ _ h => h) (Or.inl ⟨by rfl, ?_⟩) (by assumption) ?_
          rotate_left 1
          · (intro u hSw; clear hSw; go_simp; try (with_reducible rfl))
          try simp only [Act.put, List.getElem_toArray, List.getElem_cons_zero, List.getElem_cons_succ, List.setIfInBounds_toArray, List.set_cons_zero, List.set_cons_succ]
          refine wpAnyH_take (i := 12) (v := ?_) rfl (by kernel_rfl) (by kernel_rfl) (by kernel_rfl) (fun _ _ _ h => h) (Or.inl ⟨by rfl, ?_⟩) (by assumption) ?_
          rotate_left 1
          · (intro u hSw; clear hSw; go_simp; try (with_reducible rfl))
          try simp only [Act.put, List.getElem_toArray, List.getElem_cons_zero, List.getElem_cons_succ, List.setIfInBounds_toArray, List.set_cons_zero, List.set_cons_succ]
          refine wpAnyH_take (i := 16) (v := ?_) rfl (by kernel_rfl) (by kernel_rfl) (by kernel_rfl) (fun _ _ _ h => h) (Or.inl ⟨by rfl, ?_⟩) (by assumption) ?_
          rotate_left 1
          · (intro u hSw; clear hSw; go_simp; try (with_reducible rfl))
          try simp only [Act.put, List.getElem_toArray, List.getElem_cons_zero, List.getElem_cons_succ, List.setIfInBounds_toArray, List.set_cons_zero, List.set_cons_succ]
          refine wpAnyH_take (i := 17) (v := ?_) rfl (by kernel_rfl) (by kernel_rfl) (by kernel_rfl) (fun _ _ _ h => h) (Or.inl ⟨by rfl, ?_⟩) (by assumption) ?_
          rotate_left 1
          · (intro u hSw; clear hSw; go_simp; try (with_reducible rfl))
          try simp only [Act.put, List.getElem_toArray, List.getElem_cons_zero, List.getElem_cons_succ, List.setIfInBounds_toArray, List.set_cons_zero, List.set_cons_succ]
          refine wpAnyH_take (i := 19) (v := ?_) rfl (by kernel_rfl) (by kernel_rfl) (by kernel_rfl) (fun _ _ _ h => h) (Or.inl ⟨by rfl, ?_⟩) (by assumption) ?_
          rotate_left 1
          · (intro u hSw; clear hSw; go_simp; try (with_reducible rfl))
          try simp only [Act.put, List.getElem_toArray, List.getElem_cons_zero, List.getElem_cons_succ, List.setIfInBounds_toArray, List.set_cons_zero, List.set_cons_succ]
          refine wpAnyH_take (i := 20) (v := ?_) rfl (by kernel_rfl) (by kernel_rfl) (by kernel_rfl) (fun _ _ _ h => h) (Or.inl ⟨by rfl, ?_⟩) (by assumption) ?_
          rotate_left 1
          · (intro u hSw; clear hSw; go_simp; try (with_reducible rfl))
          try simp only [Act.put, List.getElem_toArray, List.getElem_cons_zero, List.getElem_cons_succ, List.setIfInBounds_toArray, List.set_cons_zero, List.set_cons_succ]
          have HE := Lib.hid hHeld
          clear hHeld
          refine wpAnyH_done (by kernel_rfl) ?_ _
          try simp only [Act.put, List.getElem_toArray, List.getElem_cons_zero, List.getElem_cons_succ, List.setIfInBounds_toArray, List.set_cons_zero, List.set_cons_succ]
          have HE := Lib.hid HE.out.tail.tail
          have HCC := Lib.hid (And.intro (epCells HE.out.tail.head) (epCells HE.out.head))
          obtain ⟨⟨c0, c1, c2, c3⟩, ⟨d0, d1, d2, d3⟩⟩ := HCC.out
          clear c3 d3
          go_wp2_with fail
          refine (HC.out _).mono ?_
          rintro e w2 ⟨rfl, B2⟩
          simp only []
          have H2 := Lib.hid (HE.out.call B2)
          clear B2 c0 c1 c2 d0 d1 d2
          obtain ⟨cs, hcs, hR⟩ := H2.out.2.1
          have HR0 := Lib.hid (And.intro hcs hR)
          have HR := Lib.hid (H2.out.row (cs := M.cells))
          have HF := Lib.hid (H2.out.store (by simp only [List.mem_cons, List.not_mem_nil, or_false]; rintro x (rfl | rfl); exact HN.out.2.1; exact HN.out.1) HN.out.2.2 (cs := M.cells) rfl)
          clear hcs hR
          go_wp2_with (first | (refine Go.wpList_store_row rfl 30 _ _ rfl R M.cells rfl rfl 30 cs HR0.out.2 info30 HR0.out.1 (pkOne M) ?_))
          obtain ⟨w5, hw5⟩ : ∃ x, x = World.setRow w2 R M.cells := ⟨_, rfl⟩
          rw [← hw5] at HR HF ⊢
          have D5 : w5.heap[R]? = some (.cells #[.bool M.src.v6, .int .u64 M.src.hi, .int .u64 M.src.lo, .bool M.dst.v6, .int .u64 M.dst.hi, .int .u64 M.dst.lo, .int .u8 M.proto, .int .u8 M.ttl, .string M.data] 30) := HR.out
          obtain ⟨k0, k1, k2, k3, k4, k5, k6, k7, k8⟩ := pkCells D5
          clear D5 HR hw5
          refine bodyPost_ret (v := .tuple #[.agg #[.bool M.src.v6, .int .u64 M.src.hi, .int .u64 M.src.lo, .bool M.dst.v6, .int .u64 M.dst.hi, .int .u64 M.dst.lo, .int .u8 M.proto, .int .u8 M.ttl, .string M.data], .int .i64 E]) (by simp [results, Try.results11, go_sem, k0, k1, k2, k3, k4, k5, k6, k7, k8]) rfl ⟨rfl, HF.out.2.2⟩
      case mo8 =>
        refine AllReadyH.cons rfl (fun K hK => ?_) AllReadyH.nil
        have HS := Lib.hid hHeld
        clear hHeld
        go_simp
        refine hK.out _ (v9.alloc (.cells #[.int .u8 fl] 5)) (HS.out.alloc _) (fun hHeld => ?_)
        have hHeld : HL [(v9.heap.size, .cells #[.int .u8 fl] 5), (g9, .cells #[.int .u8 0, .int .u8 0, .int .u8 0, .int .u8 0, .int .u8 0, .int .u8 0, .int .u8 0, .int .u8 0] 5), (B, .cells #[.bool v2, .int .u64 h2, .int .u64 l2, .int .u16 tp] 27), (A, .cells #[.bool v1, .int .u64 h1, .int .u64 l1, .int .u16 f] 27)] R 9 w (v9.alloc (.cells #[.int .u8 fl] 5)) := HS.out.made _
        refine wpAnyH_strong (S2 := fun u => HL [(v9.heap.size, .cells #[.int .u8 fl] 5), (g9, .cells #[.int .u8 0, .int .u8 0, .int .u8 0, .int .u8 0, .int .u8 0, .int .u8 0, .int .u8 0, .int .u8 0] 5), (B, .cells #[.bool v2, .int .u64 h2, .int .u64 l2, .int .u16 tp] 27), (A, .cells #[.bool v1, .int .u64 h1, .int .u64 l1, .int .u16 f] 27)] R 9 w u) (fun u hu => hu.tail) _ _ _ _ ?_
        clear hK K HS
        obtain ⟨g14, hgg⟩ : ∃ g, g = v9.heap.size := ⟨_, rfl⟩
        rw [← hgg] at hHeld ⊢
        obtain ⟨v14, hwn⟩ : ∃ x, x = (v9.alloc (.cells #[.int .u8 fl] 5)) := ⟨_, rfl⟩
        rw [← hwn] at hHeld ⊢
        clear hgg hwn
        try simp only [Act.put, List.getElem_toArray, List.getElem_cons_zero, List.getElem_cons_succ, List.setIfInBounds_toArray, List.set_cons_zero, List.set_cons_succ]
        refine wpAnyH_take (i := 15) (v := ?_) rfl (by kernel_rfl) (by kernel_rfl) (by kernel_rfl) (fun _ _ _ h => h) (Or.inl ⟨by rfl, ?_⟩) (by assumption) ?_
        rotate_left 1
        · (intro u hSw; have hcv := one_conv HX.out.2.2.2.2.2 (hSw.head); rw [← HX.out.2.2.1] at hcv; clear hSw; go_simp; try (with_reducible rfl))
        try simp only [Act.put, List.getElem_toArray, List.getElem_cons_zero, List.getElem_cons_succ, List.setIfInBounds_toArray, List.set_cons_zero, List.set_cons_succ]
        refine wpAnyH_ready (rs := [3]) (by kernel_rfl) (by simp) ?_
        refine AllReadyH.cons rfl (fun K hK => ?_) AllReadyH.nil
        have HS := Lib.hid hHeld
        clear hHeld
        go_simp
        refine (num_any f 2 _ HX.out.2.2.2.1 (by decide) (by decide)).mono ?_
        rintro e w1 ⟨rfl, B1⟩
        rw [← HX.out.1]
        simp only []
        refine hK.out _ _ (HS.out.call B1) (fun hHeld => ?_)
        clear hK K HS B1
        try simp only [Act.put, List.getElem_toArray, List.getElem_cons_zero, List.getElem_cons_succ, List.setIfInBounds_toArray, List.set_cons_zero, List.set_cons_succ]
        refine wpAnyH_ready (rs := [7]) (by kernel_rfl) (by simp) ?_
        refine AllReadyH.cons rfl (fun K hK => ?_) AllReadyH.nil
        have HS := Lib.hid hHeld
        clear hHeld
        go_simp
        refine (num_any tp 2 _ HX.out.2.2.2.2.1 (by decide) (by decide)).mono ?_
        rintro e w1 ⟨rfl, B1⟩
        rw [← HX.out.2.1]
        simp only []
        refine hK.out _ _ (HS.out.call B1) (fun hHeld => ?_)
        clear hK K HS B1
        try simp only [Act.put, List.getElem_toArray, List.getElem_cons_zero, List.getElem_cons_succ, List.setIfInBounds_toArray, List.set_cons_zero, List.set_cons_succ]
        refine wpAnyH_take (i := 8) (v := ?_) rfl (by kernel_rfl) (by kernel_rfl) (by kernel_rfl) (fun _ _ _ h => h) (Or.inl ⟨by rfl, ?_⟩) (by assumption) ?_
        rotate_left 1
        · (intro u hSw; clear hSw; go_simp; try (with_reducible rfl))
        try simp only [Act.put, List.getElem_toArray, List.getElem_cons_zero, List.getElem_cons_succ, List.setIfInBounds_toArray, List.set_cons_zero, List.set_cons_succ]
        refine wpAnyH_take (i := 11) (v := ?_) rfl (by kernel_rfl) (by kernel_rfl) (by kernel_rfl) (fun _ _ _ h => h) (Or.inl ⟨by rfl, ?_⟩) (by assumption) ?_
        rotate_left 1
        · (intro u hSw; clear hSw; go_simp; try (with_reducible rfl))
        try simp only [Act.put, List.getElem_toArray, List.getElem_cons_zero, List.getElem_cons_succ, List.setIfInBounds_toArray, List.set_cons_zero, List.set_cons_succ]
        refine wpAnyH_take (i := 12) (v := ?_) rfl (by kernel_rfl) (by kernel_rfl) (by kernel_rfl) (fun _ _ _ h => h) (Or.inl ⟨by rfl, ?_⟩) (by assumption) ?_
        rotate_left 1
        · (intro u hSw; clear hSw; go_simp; try (with_reducible rfl))
        try simp only [Act.put, List.getElem_toArray, List.getElem_cons_zero, List.getElem_cons_succ, List.setIfInBounds_toArray, List.set_cons_zero, List.set_cons_succ]
        refine wpAnyH_take (i := 16) (v := ?_) rfl (by kernel_rfl) (by kernel_rfl) (by kernel_rfl) (fun _ _ _ h => h) (Or.inl ⟨by rfl, ?_⟩) (by assumption) ?_
        rotate_left 1
        · (intro u hSw; clear hSw; go_simp; try (with_reducible rfl))
        try simp only [Act.put, List.getElem_toArray, List.getElem_cons_zero, List.getElem_cons_succ, List.setIfInBounds_toArray, List.set_cons_zero, List.set_cons_succ]
        refine wpAnyH_take (i := 17) (v := ?_) rfl (by kernel_rfl) (by kernel_rfl) (by kernel_rfl) (fun _ _ _ h => h) (Or.inl ⟨by rfl, ?_⟩) (by assumption) ?_
        rotate_left 1
        · (intro u hSw; clear hSw; go_simp; try (with_reducible rfl))
        try simp only [Act.put, List.getElem_toArray, List.getElem_cons_zero, List.getElem_cons_succ, List.setIfInBounds_toArray, List.set_cons_zero, List.set_cons_succ]
        refine wpAnyH_take (i := 19) (v := ?_) rfl (by kernel_rfl) (by kernel_rfl) (by kernel_rfl) (fun _ _ _ h => h) (Or.inl ⟨by rfl, ?_⟩) (by assumption) ?_
        rotate_left 1
        · (intro u hSw; clear hSw; go_simp; try (with_reducible rfl))
        try simp only [Act.put, List.getElem_toArray, List.getElem_cons_zero, List.getElem_cons_succ, List.setIfInBounds_toArray, List.set_cons_zero, List.set_cons_succ]
        refine wpAnyH_take (i := 20) (v := ?_) rfl (by kernel_rfl) (by kernel_rfl) (by kernel_rfl) (fun _ _ _ h => h) (Or.inl ⟨by rfl, ?_⟩) (by assumption) ?_
        rotate_left 1
        · (intro u hSw; clear hSw; go_simp; try (with_reducible rfl))
        try simp only [Act.put, List.getElem_toArray, List.getElem_cons_zero, List.getElem_cons_succ, List.setIfInBounds_toArray, List.set_cons_zero, List.set_cons_succ]
        have HE := Lib.hid hHeld
        clear hHeld
        refine wpAnyH_done (by kernel_rfl) ?_ _
        try simp only [Act.put, List.getElem_toArray, List.getElem_cons_zero, List.getElem_cons_succ, List.setIfInBounds_toArray, List.set_cons_zero, List.set_cons_succ]
        have HE := Lib.hid HE.out.tail.tail
        have HCC := Lib.hid (And.intro (epCells HE.out.tail.head) (epCells HE.out.head))
        obtain ⟨⟨c0, c1, c2, c3⟩, ⟨d0, d1, d2, d3⟩⟩ := HCC.out
        clear c3 d3
        go_wp2_with fail
        refine (HC.out _).mono ?_
        rintro e w2 ⟨rfl, B2⟩
        simp only []
        have H2 := Lib.hid (HE.out.call B2)
        clear B2 c0 c1 c2 d0 d1 d2
        obtain ⟨cs, hcs, hR⟩ := H2.out.2.1
        have HR0 := Lib.hid (And.intro hcs hR)
        have HR := Lib.hid (H2.out.row (cs := M.cells))
        have HF := Lib.hid (H2.out.store (by simp only [List.mem_cons, List.not_mem_nil, or_false]; rintro x (rfl | rfl); exact HN.out.2.1; exact HN.out.1) HN.out.2.2 (cs := M.cells) rfl)
        clear hcs hR
        go_wp2_with (first | (refine Go.wpList_store_row rfl 30 _ _ rfl R M.cells rfl rfl 30 cs HR0.out.2 info30 HR0.out.1 (pkOne M) ?_))
        obtain ⟨w5, hw5⟩ : ∃ x, x = World.setRow w2 R M.cells := ⟨_, rfl⟩
        rw [← hw5] at HR HF ⊢
        have D5 : w5.heap[R]? = some (.cells #[.bool M.src.v6, .int .u64 M.src.hi, .int .u64 M.src.lo, .bool M.dst.v6, .int .u64 M.dst.hi, .int .u64 M.dst.lo, .int .u8 M.proto, .int .u8 M.ttl, .string M.data] 30) := HR.out
        obtain ⟨k0, k1, k2, k3, k4, k5, k6, k7, k8⟩ := pkCells D5
        clear D5 HR hw5
        refine bodyPost_ret (v := .tuple #[.agg #[.bool M.src.v6, .int .u64 M.src.hi, .int .u64 M.src.lo, .bool M.dst.v6, .int .u64 M.dst.hi, .int .u64 M.dst.lo, .int .u8 M.proto, .int .u8 M.ttl, .string M.data], .int .i64 E]) (by simp [results, Try.results11, go_sem, k0, k1, k2, k3, k4, k5, k6, k7, k8]) rfl ⟨rfl, HF.out.2.2⟩
    case mo7 =>
      refine AllReadyH.cons rfl (fun K hK => ?_) AllReadyH.nil
      have HS := Lib.hid hHeld
      clear hHeld
      go_simp
      refine hK.out _ (w0.alloc (.cells #[.int .u8 fl] 5)).drew (HS.out.alloc _) (fun hHeld => ?_)
      have hHeld : HL [(w0.heap.size, .cells #[.int .u8 fl] 5), (B, .cells #[.bool v2, .int .u64 h2, .int .u64 l2, .int .u16 tp] 27), (A, .cells #[.bool v1, .int .u64 h1, .int .u64 l1, .int .u16 f] 27)] R 9 w (w0.alloc (.cells #[.int .u8 fl] 5)).drew := HS.out.made _
      refine wpAnyH_strong (S2 := fun u => HL [(w0.heap.size, .cells #[.int .u8 fl] 5), (B, .cells #[.bool v2, .int .u64 h2, .int .u64 l2, .int .u16 tp] 27), (A, .cells #[.bool v1, .int .u64 h1, .int .u64 l1, .int .u16 f] 27)] R 9 w u) (fun u hu => hu.tail) _ _ _ _ ?_
      clear hK K HS
      obtain ⟨g14, hgg⟩ : ∃ g, g = w0.heap.size := ⟨_, rfl⟩
      rw [← hgg] at hHeld ⊢
      obtain ⟨v14, hwn⟩ : ∃ x, x = (w0.alloc (.cells #[.int .u8 fl] 5)).drew := ⟨_, rfl⟩
      rw [← hwn] at hHeld ⊢
      clear hgg hwn
      try simp only [Act.put, List.getElem_toArray, List.getElem_cons_zero, List.getElem_cons_succ, List.setIfInBounds_toArray, List.set_cons_zero, List.set_cons_succ]
      refine wpAnyH_take (i := 15) (v := ?_) rfl (by kernel_rfl) (by kernel_rfl) (by kernel_rfl) (fun _ _ _ h => h) (Or.inl ⟨by rfl, ?_⟩) (by assumption) ?_
      rotate_left 1
      · (intro u hSw; have hcv := one_conv HX.out.2.2.2.2.2 (hSw.head); rw [← HX.out.2.2.1] at hcv; clear hSw; go_simp; try (with_reducible rfl))
      try simp only [Act.put, List.getElem_toArray, List.getElem_cons_zero, List.getElem_cons_succ, List.setIfInBounds_toArray, List.set_cons_zero, List.set_cons_succ]
      refine wpAnyH_ready (rs := [3, 9]) (by kernel_rfl) (by simp) ?_
      refine AllReadyH.cons (i := 3) (o := ?o10) ?ho10 (fun K hK => ?st10) ?mo10
      case ho10 => rfl
      case st10 =>
        have HS := Lib.hid hHeld
        clear hHeld
        go_simp
        refine (num_any f 2 _ HX.out.2.2.2.1 (by decide) (by decide)).mono ?_
        rintro e w1 ⟨rfl, B1⟩
        rw [← HX.out.1]
        simp only []
        refine hK.out _ _ (HS.out.call B1) (fun hHeld => ?_)
        clear hK K HS B1
        try simp only [Act.put, List.getElem_toArray, List.getElem_cons_zero, List.getElem_cons_succ, List.setIfInBounds_toArray, List.set_cons_zero, List.set_cons_succ]
        refine wpAnyH_ready (rs := [7, 9]) (by kernel_rfl) (by simp) ?_
        refine AllReadyH.cons (i := 7) (o := ?o11) ?ho11 (fun K hK => ?st11) ?mo11
        case ho11 => rfl
        case st11 =>
          have HS := Lib.hid hHeld
          clear hHeld
          go_simp
          refine (num_any tp 2 _ HX.out.2.2.2.2.1 (by decide) (by decide)).mono ?_
          rintro e w1 ⟨rfl, B1⟩
          rw [← HX.out.2.1]
          simp only []
          refine hK.out _ _ (HS.out.call B1) (fun hHeld => ?_)
          clear hK K HS B1
          try simp only [Act.put, List.getElem_toArray, List.getElem_cons_zero, List.getElem_cons_succ, List.setIfInBounds_toArray, List.set_cons_zero, List.set_cons_succ]
          refine wpAnyH_take (i := 8) (v := ?_) rfl (by kernel_rfl) (by kernel_rfl) (by kernel_rfl) (fun _ _ _ h => h) (Or.inl ⟨by rfl, ?_⟩) (by assumption) ?_
          rotate_left 1
          · (intro u hSw; clear hSw; go_simp; try (with_reducible rfl))
          try simp only [Act.put, List.getElem_toArray, List.getElem_cons_zero, List.getElem_cons_succ, List.setIfInBounds_toArray, List.set_cons_zero, List.set_cons_succ]
          refine wpAnyH_ready (rs := [9]) (by kernel_rfl) (by simp) ?_
          refine AllReadyH.cons rfl (fun K hK => ?_) AllReadyH.nil
          have HS := Lib.hid hHeld
          clear hHeld
          have hmk : ∀ u, (Instr.makeSlice 37 (.int .i64 8) (.int .i64 8)).run Try.prog u = .ok (.slice (some ⟨u.heap.size, 0, none⟩) 8 8) (u.alloc (.cells #[.int .u8 0, .int .u8 0, .int .u8 0, .int .u8 0, .int .u8 0, .int .u8 0, .int .u8 0, .int .u8 0] 5)) := fun _ => by kernel_rfl
          go_simp
          refine hK.out _ (w1.alloc (.cells #[.int .u8 0, .int .u8 0, .int .u8 0, .int .u8 0, .int .u8 0, .int .u8 0, .int .u8 0, .int .u8 0] 5)) (HS.out.alloc _) (fun hHeld => ?_)
          have hHeld : HL [(w1.heap.size, .cells #[.int .u8 0, .int .u8 0, .int .u8 0, .int .u8 0, .int .u8 0, .int .u8 0, .int .u8 0, .int .u8 0] 5), (g14, .cells #[.int .u8 fl] 5), (B, .cells #[.bool v2, .int .u64 h2, .int .u64 l2, .int .u16 tp] 27), (A, .cells #[.bool v1, .int .u64 h1, .int .u64 l1, .int .u16 f] 27)] R 9 w (w1.alloc (.cells #[.int .u8 0, .int .u8 0, .int .u8 0, .int .u8 0, .int .u8 0, .int .u8 0, .int .u8 0, .int .u8 0] 5)) := HS.out.made _
          refine wpAnyH_strong (S2 := fun u => HL [(w1.heap.size, .cells #[.int .u8 0, .int .u8 0, .int .u8 0, .int .u8 0, .int .u8 0, .int .u8 0, .int .u8 0, .int .u8 0] 5), (g14, .cells #[.int .u8 fl] 5), (B, .cells #[.bool v2, .int .u64 h2, .int .u64 l2, .int .u16 tp] 27), (A, .cells #[.bool v1, .int .u64 h1, .int .u64 l1, .int .u16 f] 27)] R 9 w u) (fun u hu => hu.tail) _ _ _ _ ?_
          clear hK K HS
          obtain ⟨g9, hgg⟩ : ∃ g, g = w1.heap.size := ⟨_, rfl⟩
          rw [← hgg] at hHeld ⊢
          obtain ⟨v9, hwn⟩ : ∃ x, x = (w1.alloc (.cells #[.int .u8 0, .int .u8 0, .int .u8 0, .int .u8 0, .int .u8 0, .int .u8 0, .int .u8 0, .int .u8 0] 5)) := ⟨_, rfl⟩
          rw [← hwn] at hHeld ⊢
          clear hgg hwn
          try simp only [Act.put, List.getElem_toArray, List.getElem_cons_zero, List.getElem_cons_succ, List.setIfInBounds_toArray, List.set_cons_zero, List.set_cons_succ]
          refine wpAnyH_take (i := 10) (v := ?_) rfl (by kernel_rfl) (by kernel_rfl) (by kernel_rfl) (fun _ _ _ h => h) (Or.inl ⟨by rfl, ?_⟩) (by assumption) ?_
          rotate_left 1
          · (intro u hSw; have hcv := eight_conv (hSw.head); skip; clear hSw; go_simp; try (with_reducible rfl))
          try simp only [Act.put, List.getElem_toArray, List.getElem_cons_zero, List.getElem_cons_succ, List.setIfInBounds_toArray, List.set_cons_zero, List.set_cons_succ]
          refine wpAnyH_take (i := 11) (v := ?_) rfl (by kernel_rfl) (by kernel_rfl) (by kernel_rfl) (fun _ _ _ h => h) (Or.inl ⟨by rfl, ?_⟩) (by assumption) ?_
          rotate_left 1
          · (intro u hSw; clear hSw; go_simp; try (with_reducible rfl))
          try simp only [Act.put, List.getElem_toArray, List.getElem_cons_zero, List.getElem_cons_succ, List.setIfInBounds_toArray, List.set_cons_zero, List.set_cons_succ]
          refine wpAnyH_take (i := 12) (v := ?_) rfl (by kernel_rfl) (by kernel_rfl) (by kernel_rfl) (fun _ _ _ h => h) (Or.inl ⟨by rfl, ?_⟩) (by assumption) ?_
          rotate_left 1
          · (intro u hSw; clear hSw; go_simp; try (with_reducible rfl))
          try simp only [Act.put, List.getElem_toArray, List.getElem_cons_zero, List.getElem_cons_succ, List.setIfInBounds_toArray, List.set_cons_zero, List.set_cons_succ]
          refine wpAnyH_take (i := 16) (v := ?_) rfl (by kernel_rfl) (by kernel_rfl) (by kernel_rfl) (fun _ _ _ h => h) (Or.inl ⟨by rfl, ?_⟩) (by assumption) ?_
          rotate_left 1
          · (intro u hSw; clear hSw; go_simp; try (with_reducible rfl))
          try simp only [Act.put, List.getElem_toArray, List.getElem_cons_zero, List.getElem_cons_succ, List.setIfInBounds_toArray, List.set_cons_zero, List.set_cons_succ]
          refine wpAnyH_take (i := 17) (v := ?_) rfl (by kernel_rfl) (by kernel_rfl) (by kernel_rfl) (fun _ _ _ h => h) (Or.inl ⟨by rfl, ?_⟩) (by assumption) ?_
          rotate_left 1
          · (intro u hSw; clear hSw; go_simp; try (with_reducible rfl))
          try simp only [Act.put, List.getElem_toArray, List.getElem_cons_zero, List.getElem_cons_succ, List.setIfInBounds_toArray, List.set_cons_zero, List.set_cons_succ]
          refine wpAnyH_take (i := 19) (v := ?_) rfl (by kernel_rfl) (by kernel_rfl) (by kernel_rfl) (fun _ _ _ h => h) (Or.inl ⟨by rfl, ?_⟩) (by assumption) ?_
          rotate_left 1
          · (intro u hSw; clear hSw; go_simp; try (with_reducible rfl))
          try simp only [Act.put, List.getElem_toArray, List.getElem_cons_zero, List.getElem_cons_succ, List.setIfInBounds_toArray, List.set_cons_zero, List.set_cons_succ]
          refine wpAnyH_take (i := 20) (v := ?_) rfl (by kernel_rfl) (by kernel_rfl) (by kernel_rfl) (fun _ _ _ h => h) (Or.inl ⟨by rfl, ?_⟩) (by assumption) ?_
          rotate_left 1
          · (intro u hSw; clear hSw; go_simp; try (with_reducible rfl))
          try simp only [Act.put, List.getElem_toArray, List.getElem_cons_zero, List.getElem_cons_succ, List.setIfInBounds_toArray, List.set_cons_zero, List.set_cons_succ]
          have HE := Lib.hid hHeld
          clear hHeld
          refine wpAnyH_done (by kernel_rfl) ?_ _
          try simp only [Act.put, List.getElem_toArray, List.getElem_cons_zero, List.getElem_cons_succ, List.setIfInBounds_toArray, List.set_cons_zero, List.set_cons_succ]
          have HE := Lib.hid HE.out.tail.tail
          have HCC := Lib.hid (And.intro (epCells HE.out.tail.head) (epCells HE.out.head))
          obtain ⟨⟨c0, c1, c2, c3⟩, ⟨d0, d1, d2, d3⟩⟩ := HCC.out
          clear c3 d3
          go_wp2_with fail
          refine (HC.out _).mono ?_
          rintro e w2 ⟨rfl, B2⟩
          simp only []
          have H2 := Lib.hid (HE.out.call B2)
          clear B2 c0 c1 c2 d0 d1 d2
          obtain ⟨cs, hcs, hR⟩ := H2.out.2.1
          have HR0 := Lib.hid (And.intro hcs hR)
          have HR := Lib.hid (H2.out.row (cs := M.cells))
          have HF := Lib.hid (H2.out.store (by simp only [List.mem_cons, List.not_mem_nil, or_false]; rintro x (rfl | rfl); exact HN.out.2.1; exact HN.out.1) HN.out.2.2 (cs := M.cells) rfl)
          clear hcs hR
          go_wp2_with (first | (refine Go.wpList_store_row rfl 30 _ _ rfl R M.cells rfl rfl 30 cs HR0.out.2 info30 HR0.out.1 (pkOne M) ?_))
          obtain ⟨w5, hw5⟩ : ∃ x, x = World.setRow w2 R M.cells := ⟨_, rfl⟩
          rw [← hw5] at HR HF ⊢
          have D5 : w5.heap[R]? = some (.cells #[.bool M.src.v6, .int .u64 M.src.hi, .int .u64 M.src.lo, .bool M.dst.v6, .int .u64 M.dst.hi, .int .u64 M.dst.lo, .int .u8 M.proto, .int .u8 M.ttl, .string M.data] 30) := HR.out
          obtain ⟨k0, k1, k2, k3, k4, k5, k6, k7, k8⟩ := pkCells D5
          clear D5 HR hw5
          refine bodyPost_ret (v := .tuple #[.agg #[.bool M.src.v6, .int .u64 M.src.hi, .int .u64 M.src.lo, .bool M.dst.v6, .int .u64 M.dst.hi, .int .u64 M.dst.lo, .int .u8 M.proto, .int .u8 M.ttl, .string M.data], .int .i64 E]) (by simp [results, Try.results11, go_sem, k0, k1, k2, k3, k4, k5, k6, k7, k8]) rfl ⟨rfl, HF.out.2.2⟩
        case mo11 =>
          refine AllReadyH.cons rfl (fun K hK => ?_) AllReadyH.nil
          have HS := Lib.hid hHeld
          clear hHeld
          have hmk : ∀ u, (Instr.makeSlice 37 (.int .i64 8) (.int .i64 8)).run Try.prog u = .ok (.slice (some ⟨u.heap.size, 0, none⟩) 8 8) (u.alloc (.cells #[.int .u8 0, .int .u8 0, .int .u8 0, .int .u8 0, .int .u8 0, .int .u8 0, .int .u8 0, .int .u8 0] 5)) := fun _ => by kernel_rfl
          go_simp
          refine hK.out _ (w1.alloc (.cells #[.int .u8 0, .int .u8 0, .int .u8 0, .int .u8 0, .int .u8 0, .int .u8 0, .int .u8 0, .int .u8 0] 5)) (HS.out.alloc _) (fun hHeld => ?_)
          have hHeld : HL [(w1.heap.size, .cells #[.int .u8 0, .int .u8 0, .int .u8 0, .int .u8 0, .int .u8 0, .int .u8 0, .int .u8 0, .int .u8 0] 5), (g14, .cells #[.int .u8 fl] 5), (B, .cells #[.bool v2, .int .u64 h2, .int .u64 l2, .int .u16 tp] 27), (A, .cells #[.bool v1, .int .u64 h1, .int .u64 l1, .int .u16 f] 27)] R 9 w (w1.alloc (.cells #[.int .u8 0, .int .u8 0, .int .u8 0, .int .u8 0, .int .u8 0, .int .u8 0, .int .u8 0, .int .u8 0] 5)) := HS.out.made _
          refine wpAnyH_strong (S2 := fun u => HL [(w1.heap.size, .cells #[.int .u8 0, .int .u8 0, .int .u8 0, .int .u8 0, .int .u8 0, .int .u8 0, .int .u8 0, .int .u8 0] 5), (g14, .cells #[.int .u8 fl] 5), (B, .cells #[.bool v2, .int .u64 h2, .int .u64 l2, .int .u16 tp] 27), (A, .cells #[.bool v1, .int .u64 h1, .int .u64 l1, .int .u16 f] 27)] R 9 w u) (fun u hu => hu.tail) _ _ _ _ ?_
          clear hK K HS
          obtain ⟨g9, hgg⟩ : ∃ g, g = w1.heap.size := ⟨_, rfl⟩
          rw [← hgg] at hHeld ⊢
          obtain ⟨v9, hwn⟩ : ∃ x, x = (w1.alloc (.cells #[.int .u8 0, .int .u8 0, .int .u8 0, .int .u8 0, .int .u8 0, .int .u8 0, .int .u8 0, .int .u8 0] 5)) := ⟨_, rfl⟩
          rw [← hwn] at hHeld ⊢
          clear hgg hwn
          try simp only [Act.put, List.getElem_toArray, List.getElem_cons_zero, List.getElem_cons_succ, List.setIfInBounds_toArray, List.set_cons_zero, List.set_cons_succ]
          refine wpAnyH_take (i := 10) (v := ?_) rfl (by kernel_rfl) (by kernel_rfl) (by kernel_rfl) (fun _ _ _ h => h) (Or.inl ⟨by rfl, ?_⟩) (by assumption) ?_
          rotate_left 1
          · (intro u hSw; have hcv := eight_conv (hSw.head); skip; clear hSw; go_simp; try (with_reducible rfl))
          try simp only [Act.put, List.getElem_toArray, List.getElem_cons_zero, List.getElem_cons_succ, List.setIfInBounds_toArray, List.set_cons_zero, List.set_cons_succ]
          refine wpAnyH_ready (rs := [7]) (by kernel_rfl) (by simp) ?_
          refine AllReadyH.cons rfl (fun K hK => ?_) AllReadyH.nil
          have HS := Lib.hid hHeld
          clear hHeld
          go_simp
          refine (num_any tp 2 _ HX.out.2.2.2.2.1 (by decide) (by decide)).mono ?_
          rintro e w1 ⟨rfl, B1⟩
          rw [← HX.out.2.1]
          simp only []
          refine hK.out _ _ (HS.out.call B1) (fun hHeld => ?_)
          clear hK K HS B1
          try simp only [Act.put, List.getElem_toArray, List.getElem_cons_zero, List.getElem_cons_succ, List.setIfInBounds_toArray, List.set_cons_zero, List.set_cons_succ]
          refine wpAnyH_take (i := 8) (v := ?_) rfl (by kernel_rfl) (by kernel_rfl) (by kernel_rfl) (fun _ _ _ h => h) (Or.inl ⟨by rfl, ?_⟩) (by assumption) ?_
          rotate_left 1
          · (intro u hSw; clear hSw; go_simp; try (with_reducible rfl))
          try simp only [Act.put, List.getElem_toArray, List.getElem_cons_zero, List.getElem_cons_succ, List.setIfInBounds_toArray, List.set_cons_zero, List.set_cons_succ]
          refine wpAnyH_take (i := 11) (v := ?_) rfl (by kernel_rfl) (by kernel_rfl) (by kernel_rfl) (fun _ _ _ h => h) (Or.inl ⟨by rfl, ?_⟩) (by assumption) ?_
          rotate_left 1
          · (intro u hSw; clear hSw; go_simp; try (with_reducible rfl))
          try simp only [Act.put, List.getElem_toArray, List.getElem_cons_zero, List.getElem_cons_succ, List.setIfInBounds_toArray, List.set_cons_zero, List.set_cons_succ]
          refine wpAnyH_take (i := 12) (v := ?_) rfl (by kernel_rfl) (by kernel_rfl) (by kernel_rfl) (fun _ _ _ h => h) (Or.inl ⟨by rfl, ?_⟩) (by assumption) ?_
          rotate_left 1
          · (intro u hSw; clear hSw; go_simp; try (with_reducible rfl))
          try simp only [Act.put, List.getElem_toArray, List.getElem_cons_zero, List.getElem_cons_succ, List.setIfInBounds_toArray, List.set_cons_zero, List.set_cons_succ]
          refine wpAnyH_take (i := 16) (v := ?_) rfl (by kernel_rfl) (by kernel_rfl) (by kernel_rfl) (fun _ _ _ h => h) (Or.inl ⟨by rfl, ?_⟩) (by assumption) ?_
          rotate_left 1
          · (intro u hSw; clear hSw; go_simp; try (with_reducible rfl))
          try simp only [Act.put, List.getElem_toArray, List.getElem_cons_zero, List.getElem_cons_succ, List.setIfInBounds_toArray, List.set_cons_zero, List.set_cons_succ]
          refine wpAnyH_take (i := 17) (v := ?_) rfl (by kernel_rfl) (by kernel_rfl) (by kernel_rfl) (fun _ _ _ h => h) (Or.inl ⟨by rfl, ?_⟩) (by assumption) ?_
          rotate_left 1
          · (intro u hSw; clear hSw; go_simp; try (with_reducible rfl))
          try simp only [Act.put, List.getElem_toArray, List.getElem_cons_zero, List.getElem_cons_succ, List.setIfInBounds_toArray, List.set_cons_zero, List.set_cons_succ]
          refine wpAnyH_take (i := 19) (v := ?_) rfl (by kernel_rfl) (by kernel_rfl) (by kernel_rfl) (fun _ _ _ h => h) (Or.inl ⟨by rfl, ?_⟩) (by assumption) ?_
          rotate_left 1
          · (intro u hSw; clear hSw; go_simp; try (with_reducible rfl))
          try simp only [Act.put, List.getElem_toArray, List.getElem_cons_zero, List.getElem_cons_succ, List.setIfInBounds_toArray, List.set_cons_zero, List.set_cons_succ]
          refine wpAnyH_take (i := 20) (v := ?_) rfl (by kernel_rfl) (by kernel_rfl) (by kernel_rfl) (fun _ _ _ h => h) (Or.inl ⟨by rfl, ?_⟩) (by assumption) ?_
          rotate_left 1
          · (intro u hSw; clear hSw; go_simp; try (with_reducible rfl))
          try simp only [Act.put, List.getElem_toArray, List.getElem_cons_zero, List.getElem_cons_succ, List.setIfInBounds_toArray, List.set_cons_zero, List.set_cons_succ]
          have HE := Lib.hid hHeld
          clear hHeld
          refine wpAnyH_done (by kernel_rfl) ?_ _
          try simp only [Act.put, List.getElem_toArray, List.getElem_cons_zero, List.getElem_cons_succ, List.setIfInBounds_toArray, List.set_cons_zero, List.set_cons_succ]
          have HE := Lib.hid HE.out.tail.tail
          have HCC := Lib.hid (And.intro (epCells HE.out.tail.head) (epCells HE.out.head))
          obtain ⟨⟨c0, c1, c2, c3⟩, ⟨d0, d1, d2, d3⟩⟩ := HCC.out
          clear c3 d3
          go_wp2_with fail
          refine (HC.out _).mono ?_
          rintro e w2 ⟨rfl, B2⟩
          simp only []
          have H2 := Lib.hid (HE.out.call B2)
          clear B2 c0 c1 c2 d0 d1 d2
          obtain ⟨cs, hcs, hR⟩ := H2.out.2.1
          have HR0 := Lib.hid (And.intro hcs hR)
          have HR := Lib.hid (H2.out.row (cs := M.cells))
          have HF := Lib.hid (H2.out.store (by simp only [List.mem_cons, List.not_mem_nil, or_false]; rintro x (rfl | rfl); exact HN.out.2.1; exact HN.out.1) HN.out.2.2 (cs := M.cells) rfl)
          clear hcs hR
          go_wp2_with (first | (refine Go.wpList_store_row rfl 30 _ _ rfl R M.cells rfl rfl 30 cs HR0.out.2 info30 HR0.out.1 (pkOne M) ?_))
          obtain ⟨w5, hw5⟩ : ∃ x, x = World.setRow w2 R M.cells := ⟨_, rfl⟩
          rw [← hw5] at HR HF ⊢
          have D5 : w5.heap[R]? = some (.cells #[.bool M.src.v6, .int .u64 M.src.hi, .int .u64 M.src.lo, .bool M.dst.v6, .int .u64 M.dst.hi, .int .u64 M.dst.lo, .int .u8 M.proto, .int .u8 M.ttl, .string M.data] 30) := HR.out
          obtain ⟨k0, k1, k2, k3, k4, k5, k6, k7, k8⟩ := pkCells D5
          clear D5 HR hw5
          refine bodyPost_ret (v := .tuple #[.agg #[.bool M.src.v6, .int .u64 M.src.hi, .int .u64 M.src.lo, .bool M.dst.v6, .int .u64 M.dst.hi, .int .u64 M.dst.lo, .int .u8 M.proto, .int .u8 M.ttl, .string M.data], .int .i64 E]) (by simp [results, Try.results11, go_sem, k0, k1, k2, k3, k4, k5, k6, k7, k8]) rfl ⟨rfl, HF.out.2.2⟩
      case mo10 =>
        refine AllReadyH.cons rfl (fun K hK => ?_) AllReadyH.nil
        have HS := Lib.hid hHeld
        clear hHeld
        have hmk : ∀ u, (Instr.makeSlice 37 (.int .i64 8) (.int .i64 8)).run Try.prog u = .ok (.slice (some ⟨u.heap.size, 0, none⟩) 8 8) (u.alloc (.cells #[.int .u8 0, .int .u8 0, .int .u8 0, .int .u8 0, .int .u8 0, .int .u8 0, .int .u8 0, .int .u8 0] 5)) := fun _ => by kernel_rfl
        go_simp
        refine hK.out _ (v14.alloc (.cells #[.int .u8 0, .int .u8 0, .int .u8 0, .int .u8 0, .int .u8 0, .int .u8 0, .int .u8 0, .int .u8 0] 5)) (HS.out.alloc _) (fun hHeld => ?_)
        have hHeld : HL [(v14.heap.size, .cells #[.int .u8 0, .int .u8 0, .int .u8 0, .int .u8 0, .int .u8 0, .int .u8 0, .int .u8 0, .int .u8 0] 5), (g14, .cells #[.int .u8 fl] 5), (B, .cells #[.bool v2, .int .u64 h2, .int .u64 l2, .int .u16 tp] 27), (A, .cells #[.bool v1, .int .u64 h1, .int .u64 l1, .int .u16 f] 27)] R 9 w (v14.alloc (.cells #[.int .u8 0, .int .u8 0, .int .u8 0, .int .u8 0, .int .u8 0, .int .u8 0, .int .u8 0, .int .u8 0] 5)) := HS.out.made _
        refine wpAnyH_strong (S2 := fun u => HL [(v14.heap.size, .cells #[.int .u8 0, .int .u8 0, .int .u8 0, .int .u8 0, .int .u8 0, .int .u8 0, .int .u8 0, .int .u8 0] 5), (g14, .cells #[.int .u8 fl] 5), (B, .cells #[.bool v2, .int .u64 h2, .int .u64 l2, .int .u16 tp] 27), (A, .cells #[.bool v1, .int .u64 h1, .int .u64 l1, .int .u16 f] 27)] R 9 w u) (fun u hu => hu.tail) _ _ _ _ ?_
        clear hK K HS
        obtain ⟨g9, hgg⟩ : ∃ g, g = v14.heap.size := ⟨_, rfl⟩
        rw [← hgg] at hHeld ⊢
        obtain ⟨v9, hwn⟩ : ∃ x, x = (v14.alloc (.cells #[.int .u8 0, .int .u8 0, .int .u8 0, .int .u8 0, .int .u8 0, .int .u8 0, .int .u8 0, .int .u8 0] 5)) := ⟨_, rfl⟩
        rw [← hwn] at hHeld ⊢
        clear hgg hwn
        try simp only [Act.put, List.getElem_toArray, List.getElem_cons_zero, List.getElem_cons_succ, List.setIfInBounds_toArray, List.set_cons_zero, List.set_cons_succ]
        refine wpAnyH_take (i := 10) (v := ?_) rfl (by kernel_rfl) (by kernel_rfl) (by kernel_rfl) (fun _ _ _ h => h) (Or.inl ⟨by rfl, ?_⟩) (by assumption) ?_
        rotate_left 1
        · (intro u hSw; have hcv := eight_conv (hSw.head); skip; clear hSw; go_simp; try (with_reducible rfl))
        try simp only [Act.put, List.getElem_toArray, List.getElem_cons_zero, List.getElem_cons_succ, List.setIfInBounds_toArray, List.set_cons_zero, List.set_cons_succ]
        refine wpAnyH_ready (rs := [3]) (by kernel_rfl) (by simp) ?_
        refine AllReadyH.cons rfl (fun K hK => ?_) AllReadyH.nil
        have HS := Lib.hid hHeld
        clear hHeld
        go_simp
        refine (num_any f 2 _ HX.out.2.2.2.1 (by decide) (by decide)).mono ?_
        rintro e w1 ⟨rfl, B1⟩
        rw [← HX.out.1]
        simp only []
        refine hK.out _ _ (HS.out.call B1) (fun hHeld => ?_)
        clear hK K HS B1
        try simp only [Act.put, List.getElem_toArray, List.getElem_cons_zero, List.getElem_cons_succ, List.setIfInBounds_toArray, List.set_cons_zero, List.set_cons_succ]
        refine wpAnyH_ready (rs := [7]) (by kernel_rfl) (by simp) ?_
        refine AllReadyH.cons rfl (fun K hK => ?_) AllReadyH.nil
        have HS := Lib.hid hHeld
        clear hHeld
        go_simp
        refine (num_any tp 2 _ HX.out.2.2.2.2.1 (by decide) (by decide)).mono ?_
        rintro e w1 ⟨rfl, B1⟩
        rw [← HX.out.2.1]
        simp only []
        refine hK.out _ _ (HS.out.call B1) (fun hHeld => ?_)
        clear hK K HS B1
        try simp only [Act.put, List.getElem_toArray, List.getElem_cons_zero, List.getElem_cons_succ, List.setIfInBounds_toArray, List.set_cons_zero, List.set_cons_succ]
        refine wpAnyH_take (i := 8) (v := ?_) rfl (by kernel_rfl) (by kernel_rfl) (by kernel_rfl) (fun _ _ _ h => h) (Or.inl ⟨by rfl, ?_⟩) (by assumption) ?_
        rotate_left 1
        · (intro u hSw; clear hSw; go_simp; try (with_reducible rfl))
        try simp only [Act.put, List.getElem_toArray, List.getElem_cons_zero, List.getElem_cons_succ, List.setIfInBounds_toArray, List.set_cons_zero, List.set_cons_succ]
        refine wpAnyH_take (i := 11) (v := ?_) rfl (by kernel_rfl) (by kernel_rfl) (by kernel_rfl) (fun _ _ _ h => h) (Or.inl ⟨by rfl, ?_⟩) (by assumption) ?_
        rotate_left 1
        · (intro u hSw; clear hSw; go_simp; try (with_reducible rfl))
        try simp only [Act.put, List.getElem_toArray, List.getElem_cons_zero, List.getElem_cons_succ, List.setIfInBounds_toArray, List.set_cons_zero, List.set_cons_succ]
        refine wpAnyH_take (i := 12) (v := ?_) rfl (by kernel_rfl) (by kernel_rfl) (by kernel_rfl) (fun _ _ _ h => h) (Or.inl ⟨by rfl, ?_⟩) (by assumption) ?_
        rotate_left 1
        · (intro u hSw; clear hSw; go_simp; try (with_reducible rfl))
        try simp only [Act.put, List.getElem_toArray, List.getElem_cons_zero, List.getElem_cons_succ, List.setIfInBounds_toArray, List.set_cons_zero, List.set_cons_succ]
        refine wpAnyH_take (i := 16) (v := ?_) rfl (by kernel_rfl) (by kernel_rfl) (by kernel_rfl) (fun _ _ _ h => h) (Or.inl ⟨by rfl, ?_⟩) (by assumption) ?_
        rotate_left 1
        · (intro u hSw; clear hSw; go_simp; try (with_reducible rfl))
        try simp only [Act.put, List.getElem_toArray, List.getElem_cons_zero, List.getElem_cons_succ, List.setIfInBounds_toArray, List.set_cons_zero, List.set_cons_succ]
        refine wpAnyH_take (i := 17) (v := ?_) rfl (by kernel_rfl) (by kernel_rfl) (by kernel_rfl) (fun _ _ _ h => h) (Or.inl ⟨by rfl, ?_⟩) (by assumption) ?_
        rotate_left 1
        · (intro u hSw; clear hSw; go_simp; try (with_reducible rfl))
        try simp only [Act.put, List.getElem_toArray, List.getElem_cons_zero, List.getElem_cons_succ, List.setIfInBounds_toArray, List.set_cons_zero, List.set_cons_succ]
        refine wpAnyH_take (i := 19) (v := ?_) rfl (by kernel_rfl) (by kernel_rfl) (by kernel_rfl) (fun _ _ _ h => h) (Or.inl ⟨by rfl, ?_⟩) (by assumption) ?_
        rotate_left 1
        · (intro u hSw; clear hSw; go_simp; try (with_reducible rfl))
        try simp only [Act.put, List.getElem_toArray, List.getElem_cons_zero, List.getElem_cons_succ, List.setIfInBounds_toArray, List.set_cons_zero, List.set_cons_succ]
        refine wpAnyH_take (i := 20) (v := ?_) rfl (by kernel_rfl) (by kernel_rfl) (by kernel_rfl) (fun _ _ _ h => h) (Or.inl ⟨by rfl, ?_⟩) (by assumption) ?_
        rotate_left 1
        · (intro u hSw; clear hSw; go_simp; try (with_reducible rfl))
        try simp only [Act.put, List.getElem_toArray, List.getElem_cons_zero, List.getElem_cons_succ, List.setIfInBounds_toArray, List.set_cons_zero, List.set_cons_succ]
        have HE := Lib.hid hHeld
        clear hHeld
        refine wpAnyH_done (by kernel_rfl) ?_ _
        try simp only [Act.put, List.getElem_toArray, List.getElem_cons_zero, List.getElem_cons_succ, List.setIfInBounds_toArray, List.set_cons_zero, List.set_cons_succ]
        have HE := Lib.hid HE.out.tail.tail
        have HCC := Lib.hid (And.intro (epCells HE.out.tail.head) (epCells HE.out.head))
        obtain ⟨⟨c0, c1, c2, c3⟩, ⟨d0, d1, d2, d3⟩⟩ := HCC.out
        clear c3 d3
        go_wp2_with fail
        refine (HC.out _).mono ?_
        rintro e w2 ⟨rfl, B2⟩
        simp only []
        have H2 := Lib.hid (HE.out.call B2)
        clear B2 c0 c1 c2 d0 d1 d2
        obtain ⟨cs, hcs, hR⟩ := H2.out.2.1
        have HR0 := Lib.hid (And.intro hcs hR)
        have HR := Lib.hid (H2.out.row (cs := M.cells))
        have HF := Lib.hid (H2.out.store (by simp only [List.mem_cons, List.not_mem_nil, or_false]; rintro x (rfl | rfl); exact HN.out.2.1; exact HN.out.1) HN.out.2.2 (cs := M.cells) rfl)
        clear hcs hR
        go_wp2_with (first | (refine Go.wpList_store_row rfl 30 _ _ rfl R M.cells rfl rfl 30 cs HR0.out.2 info30 HR0.out.1 (pkOne M) ?_))
        obtain ⟨w5, hw5⟩ : ∃ x, x = World.setRow w2 R M.cells := ⟨_, rfl⟩
        rw [← hw5] at HR HF ⊢
        have D5 : w5.heap[R]? = some (.cells #[.bool M.src.v6, .int .u64 M.src.hi, .int .u64 M.src.lo, .bool M.dst.v6, .int .u64 M.dst.hi, .int .u64 M.dst.lo, .int .u8 M.proto, .int .u8 M.ttl, .string M.data] 30) := HR.out
        obtain ⟨k0, k1, k2, k3, k4, k5, k6, k7, k8⟩ := pkCells D5
        clear D5 HR hw5
        refine bodyPost_ret (v := .tuple #[.agg #[.bool M.src.v6, .int .u64 M.src.hi, .int .u64 M.src.lo, .bool M.dst.v6, .int .u64 M.dst.hi, .int .u64 M.dst.lo, .int .u8 M.proto, .int .u8 M.ttl, .string M.data], .int .i64 E]) (by simp [results, Try.results11, go_sem, k0, k1, k2, k3, k4, k5, k6, k7, k8]) rfl ⟨rfl, HF.out.2.2⟩

end Go.Proofs.Ytgonakpoflacoaa
