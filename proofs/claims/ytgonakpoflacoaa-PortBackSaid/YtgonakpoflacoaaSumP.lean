/-
  A packet's sum: the code's.
-/
import Derived.Test.YtgonakpoflacoaaSumBase
import Derived.Deep.RegionHeld3
import Derived.Deep.CutRange
import Derived.Laws.Concat
set_option linter.unusedVariables false
set_option linter.unusedSimpArgs false
namespace Go.Proofs.Ytgonakpoflacoaa
open Go.RowKit

theorem heap_keep (w : World) (o : Obj) {r : Nat} (h : r < w.heap.size) : (w.alloc o).heap[r]? = w.heap[r]? := heap_alloc_old w o h
set_option maxHeartbeats 16000000 in
set_option maxRecDepth 100000 in
theorem sum_6 (p : Pk) (w : World) (hok : p.Ok) (hd : p.data.size ≤ 10000) (hps : pseudo p = true) (q6 : p.proto = 6) : Calls Try.prog 33 #[p.val] w fun e w' => e = .returned (.int .u16 (sumP p)) ∧ Below w.heap.size w w' := by
  obtain ⟨⟨v1, h1, l1⟩, ⟨v2, h2, l2⟩, pr, tt, d⟩ := p
  obtain ⟨p, hp⟩ : ∃ p : Pk, p = ⟨⟨v1, h1, l1⟩, ⟨v2, h2, l2⟩, pr, tt, d⟩ := ⟨_, rfl⟩
  have HP := Lib.hid hp
  have HOK := Lib.hid (show (⟨v1, h1, l1⟩ : Ad).Ok ∧ (⟨v2, h2, l2⟩ : Ad).Ok ∧ pr < 256 from ⟨hok.1, hok.2.1, hok.2.2.1⟩)
  have hds : d.size ≤ 10000 := hd
  have HPS := Lib.hid (show pseudo p = true by rw [hp]; exact hps)
  rw [← hp]
  rw [show p.val = .agg #[.bool v1, .int .u64 h1, .int .u64 l1, .bool v2, .int .u64 h2, .int .u64 l2, .int .u8 pr, .int .u8 tt, .string d] by rw [hp]; rfl]
  clear hok hp hps
  obtain ⟨u1, u2⟩ := u16N d.size hds
  have HZ := Lib.hid (show d.size < 65536 ∧ d.size < 18446744073709551616 by omega)
  have hz : (d.size : Int) ≤ 10000 := by omega
  have HW0 := (heap_alloc_last w (.cells #[.bool v1, .int .u64 h1, .int .u64 l1, .bool v2, .int .u64 h2, .int .u64 l2, .int .u8 pr, .int .u8 tt, .string d] 30))
  have HB0 := (Below.refl w.heap.size w).alloc (Nat.le_refl _) (.cells #[.bool v1, .int .u64 h1, .int .u64 l1, .bool v2, .int .u64 h2, .int .u64 l2, .int .u8 pr, .int .u8 tt, .string d] 30)
  obtain ⟨X1, hX1⟩ : ∃ X, X = adS ⟨v1, h1, l1⟩ := ⟨_, rfl⟩
  obtain ⟨X2, hX2⟩ : ∃ X, X = adS ⟨v2, h2, l2⟩ := ⟨_, rfl⟩
  obtain ⟨C, hC⟩ : ∃ X : ByteArray, X = ⟨#[0, UInt8.ofNat pr]⟩ := ⟨_, rfl⟩
  obtain ⟨D, hD⟩ : ∃ X, X = beS d.size 2 := ⟨_, rfl⟩
  have z1 : X1.size ≤ 16 := by rw [hX1]; exact adS_size _
  have z2 : X2.size ≤ 16 := by rw [hX2]; exact adS_size _
  have z3 : C.size = 2 := by rw [hC]; rfl
  have z4 : D.size = 2 := by rw [hD]; exact beS_size _ _
  have a1 := addS X1 X2 (by omega)
  have a2 := addS (X1 ++ X2) C (by rw [ByteArray.size_append, z3]; omega)
  have a3 := addS (X1 ++ X2 ++ C) D (by rw [ByteArray.size_append, ByteArray.size_append, z3, z4]; omega)
  have htot : X1 ++ X2 ++ C ++ D = aheadS p := by
    rw [ahead_yes HPS.out, HP.out, hX1, hX2, hC, hD]

  have hsz : (aheadS p ++ p.data).size ≤ 20000 := by
    rw [ByteArray.size_append, ahead_yes HPS.out, HP.out]
    simp only [ByteArray.size_append]
    rw [← hX1, ← hX2, ← hD, z4]
    show X1.size + X2.size + 2 + 2 + d.size ≤ 20000
    omega
  have HX := Lib.hid (And.intro hX1 (And.intro hX2 (And.intro hC hD)))
  clear hX1 hX2 hC hD
  obtain ⟨T, hT⟩ : ∃ T, T = aheadS p ++ d := ⟨_, rfl⟩
  have HT := Lib.hid (show T = aheadS p ++ p.data ∧ T = aheadS p ++ d ∧ (aheadS p ++ p.data).size ≤ 20000 from ⟨by rw [hT, HP.out], hT, hsz⟩)
  have a4 := addS (X1 ++ X2 ++ C ++ D) d (by rw [htot]; have := hsz; rw [ByteArray.size_append, HP.out] at this; rw [HP.out]; show _ + d.size ≤ _; have h2 : (⟨⟨v1, h1, l1⟩, ⟨v2, h2, l2⟩, pr, tt, d⟩ : Pk).data.size = d.size := rfl; omega)
  rw [htot, ← hT] at a4
  rw [htot] at a3
  have HTOT := Lib.hid htot
  clear htot
  clear hsz hT z1 z2 z3 z4
  have b6 : ((pr : Int) == 6) = true := byEq (b := 6) q6
  clear q6
  go_enter Try.func33, Try.ntmps33
  go_upto_region 6 with (fail)
  obtain ⟨w0, hw0⟩ : ∃ uu, uu = w.alloc (.cells #[.bool v1, .int .u64 h1, .int .u64 l1, .bool v2, .int .u64 h2, .int .u64 l2, .int .u8 pr, .int .u8 tt, .string d] 30) := ⟨_, rfl⟩
  rw [← hw0] at HW0 HB0
  rw [← hw0]
  have HW := Lib.hid (And.intro HW0 HB0)
  clear HW0 HB0 hw0
  refine wp_region_held_drew (S := fun u => u.heap[w.heap.size]? = some (.cells #[.bool v1, .int .u64 h1, .int .u64 l1, .bool v2, .int .u64 h2, .int .u64 l2, .int .u8 pr, .int .u8 tt, .string d] 30) ∧ Below w.heap.size w u) (by kernel_rfl) ⟨HW.out.1, HW.out.2.drew⟩ (fun hHeld => ?_)
  refine wpAnyH_take (i := 0) (v := ?_) rfl (by kernel_rfl) (by kernel_rfl) (by kernel_rfl) (fun _ _ _ h => h) (Or.inl ⟨by rfl, ?_⟩) (by assumption) ?_
  rotate_left 1
  · (intro u hSw; clear hSw; go_simp; try (with_reducible rfl))
  try simp only [Act.put, List.setIfInBounds_toArray, List.set_cons_zero, List.set_cons_succ]
  refine wpAnyH_take (i := 1) (v := ?_) rfl (by kernel_rfl) (by kernel_rfl) (by kernel_rfl) (fun _ _ _ h => h) (Or.inl ⟨by rfl, ?_⟩) (by assumption) ?_
  rotate_left 1
  · (intro u hSw; obtain ⟨k0, k1, k2, k3, k4, k5, k6, k7, k8⟩ := pkCells hSw.1; clear hSw; go_simp; try (with_reducible rfl))
  try simp only [Act.put, List.setIfInBounds_toArray, List.set_cons_zero, List.set_cons_succ]
  refine wpAnyH_take (i := 3) (v := ?_) rfl (by kernel_rfl) (by kernel_rfl) (by kernel_rfl) (fun _ _ _ h => h) (Or.inl ⟨by rfl, ?_⟩) (by assumption) ?_
  rotate_left 1
  · (intro u hSw; clear hSw; go_simp; try (with_reducible rfl))
  try simp only [Act.put, List.setIfInBounds_toArray, List.set_cons_zero, List.set_cons_succ]
  refine wpAnyH_take (i := 4) (v := ?_) rfl (by kernel_rfl) (by kernel_rfl) (by kernel_rfl) (fun _ _ _ h => h) (Or.inl ⟨by rfl, ?_⟩) (by assumption) ?_
  rotate_left 1
  · (intro u hSw; obtain ⟨k0, k1, k2, k3, k4, k5, k6, k7, k8⟩ := pkCells hSw.1; clear hSw; go_simp; try (with_reducible rfl))
  try simp only [Act.put, List.setIfInBounds_toArray, List.set_cons_zero, List.set_cons_succ]
  refine wpAnyH_take (i := 7) (v := ?_) rfl (by kernel_rfl) (by kernel_rfl) (by kernel_rfl) (fun _ _ _ h => h) (Or.inl ⟨by rfl, ?_⟩) (by assumption) ?_
  rotate_left 1
  · (intro u hSw; clear hSw; go_simp; try (with_reducible rfl))
  try simp only [Act.put, List.setIfInBounds_toArray, List.set_cons_zero, List.set_cons_succ]
  refine wpAnyH_take (i := 8) (v := ?_) rfl (by kernel_rfl) (by kernel_rfl) (by kernel_rfl) (fun _ _ _ h => h) (Or.inl ⟨by rfl, ?_⟩) (by assumption) ?_
  rotate_left 1
  · (intro u hSw; obtain ⟨k0, k1, k2, k3, k4, k5, k6, k7, k8⟩ := pkCells hSw.1; clear hSw; go_simp; try (with_reducible rfl))
  try simp only [Act.put, List.setIfInBounds_toArray, List.set_cons_zero, List.set_cons_succ]
  refine wpAnyH_take (i := 12) (v := ?_) rfl (by kernel_rfl) (by kernel_rfl) (by kernel_rfl) (fun _ _ _ h => h) (Or.inl ⟨by rfl, ?_⟩) (by assumption) ?_
  rotate_left 1
  · (intro u hSw; clear hSw; go_simp; try (with_reducible rfl))
  try simp only [Act.put, List.setIfInBounds_toArray, List.set_cons_zero, List.set_cons_succ]
  refine wpAnyH_take (i := 13) (v := ?_) rfl (by kernel_rfl) (by kernel_rfl) (by kernel_rfl) (fun _ _ _ h => h) (Or.inl ⟨by rfl, ?_⟩) (by assumption) ?_
  rotate_left 1
  · (intro u hSw; obtain ⟨k0, k1, k2, k3, k4, k5, k6, k7, k8⟩ := pkCells hSw.1; clear hSw; go_simp; try (with_reducible rfl))
  try simp only [Act.put, List.setIfInBounds_toArray, List.set_cons_zero, List.set_cons_succ]
  refine wpAnyH_take (i := 14) (v := ?_) rfl (by kernel_rfl) (by kernel_rfl) (by kernel_rfl) (fun _ _ _ h => h) (Or.inl ⟨by rfl, ?_⟩) (by assumption) ?_
  rotate_left 1
  · (intro u hSw; clear hSw; go_simp; try (with_reducible rfl))
  try simp only [Act.put, List.setIfInBounds_toArray, List.set_cons_zero, List.set_cons_succ]
  refine wpAnyH_take (i := 15) (v := ?_) rfl (by kernel_rfl) (by kernel_rfl) (by kernel_rfl) (fun _ _ _ h => h) (Or.inl ⟨by rfl, ?_⟩) (by assumption) ?_
  rotate_left 1
  · (intro u hSw; clear hSw; go_simp; try (with_reducible rfl))
  try simp only [Act.put, List.setIfInBounds_toArray, List.set_cons_zero, List.set_cons_succ]
  refine wpAnyH_ready (rs := [2, 9]) (by kernel_rfl) (by simp) ?_
  refine AllReadyH.cons (i := 2) (o := ?o1) ?ho1 (fun K hK => ?st1) ?mo1
  case ho1 => rfl
  case st1 =>
    have HS := Lib.hid hHeld
    clear hHeld
    go_simp
    refine (addr_any ⟨v1, h1, l1⟩ _ HOK.out.1).mono ?_
    rintro e w1 ⟨rfl, B1⟩
    rw [← HX.out.1]
    simp only []
    refine hK.out _ _ ⟨(B1.block _ (lt_of_heap HS.out.1)).trans HS.out.1, HS.out.2.trans (B1.mono HS.out.2.size)⟩ (fun hHeld => ?_)
    clear hK K HS B1
    try simp only [Act.put, List.setIfInBounds_toArray, List.set_cons_zero, List.set_cons_succ]
    refine wpAnyH_ready (rs := [5, 9]) (by kernel_rfl) (by simp) ?_
    refine AllReadyH.cons (i := 5) (o := ?o2) ?ho2 (fun K hK => ?st2) ?mo2
    case ho2 => rfl
    case st2 =>
      have HS := Lib.hid hHeld
      clear hHeld
      go_simp
      refine (addr_any ⟨v2, h2, l2⟩ _ HOK.out.2.1).mono ?_
      rintro e w1 ⟨rfl, B1⟩
      rw [← HX.out.2.1]
      simp only []
      refine hK.out _ _ ⟨(B1.block _ (lt_of_heap HS.out.1)).trans HS.out.1, HS.out.2.trans (B1.mono HS.out.2.size)⟩ (fun hHeld => ?_)
      clear hK K HS B1
      try simp only [Act.put, List.setIfInBounds_toArray, List.set_cons_zero, List.set_cons_succ]
      refine wpAnyH_take (i := 6) (v := ?_) rfl (by kernel_rfl) (by kernel_rfl) (by kernel_rfl) (fun _ _ _ h => h) (Or.inl ⟨by rfl, ?_⟩) (by assumption) ?_
      rotate_left 1
      · (intro u hSw; clear hSw; go_simp; try (with_reducible rfl))
      try simp only [Act.put, List.setIfInBounds_toArray, List.set_cons_zero, List.set_cons_succ]
      refine wpAnyH_ready (rs := [9, 16]) (by kernel_rfl) (by simp) ?_
      refine AllReadyH.cons (i := 9) (o := ?o3) ?ho3 (fun K hK => ?st3) ?mo3
      case ho3 => rfl
      case st3 =>
        have HS := Lib.hid hHeld
        clear hHeld
        go_simp
        refine hK.out _ _ ⟨(heap_keep _ _ (lt_of_heap HS.out.1)).trans HS.out.1, HS.out.2.alloc HS.out.2.size _⟩ (fun hHeld => ?_)
        have G : (w1.alloc (.cells #[.int .u8 0, .int .u8 (pr : Int)] 5)).heap[w1.heap.size]? = some (.cells #[.int .u8 0, .int .u8 (pr : Int)] 5) := heap_alloc_last w1 _
        clear hK K HS
        obtain ⟨g, hgg⟩ : ∃ g, g = w1.heap.size := ⟨_, rfl⟩
        rw [← hgg] at G
        rw [← hgg]
        have G := Lib.hid G
        clear hgg
        try simp only [Act.put, List.setIfInBounds_toArray, List.set_cons_zero, List.set_cons_succ]
        refine wpAnyH_ready (rs := [10, 16]) (by kernel_rfl) (by simp) ?_
        refine AllReadyH.cons (i := 10) (o := ?o4) ?ho4 (fun K hK => ?st4) ?mo4
        case ho4 => rfl
        case st4 =>
          have HS := Lib.hid hHeld
          clear hHeld
          have hcv := two_conv HOK.out.2.2 G.out
          rw [← HX.out.2.2.1] at hcv
          go_simp
          refine hK.out _ _ HS.out (fun hHeld => ?_)
          clear hK K HS hcv G
          try simp only [Act.put, List.setIfInBounds_toArray, List.set_cons_zero, List.set_cons_succ]
          refine wpAnyH_take (i := 11) (v := ?_) rfl (by kernel_rfl) (by kernel_rfl) (by kernel_rfl) (fun _ _ _ h => h) (Or.inl ⟨by rfl, ?_⟩) (by assumption) ?_
          rotate_left 1
          · (intro u hSw; clear hSw; go_simp; try (with_reducible rfl))
          try simp only [Act.put, List.setIfInBounds_toArray, List.set_cons_zero, List.set_cons_succ]
          refine wpAnyH_ready (rs := [16]) (by kernel_rfl) (by simp) ?_
          refine AllReadyH.cons rfl (fun K hK => ?_) AllReadyH.nil
          have HS := Lib.hid hHeld
          clear hHeld
          go_simp
          refine (put16 d.size _ HZ.out.1).mono ?_
          rintro e w1 ⟨rfl, B1⟩
          rw [← HX.out.2.2.2]
          simp only []
          refine hK.out _ _ ⟨(B1.block _ (lt_of_heap HS.out.1)).trans HS.out.1, HS.out.2.trans (B1.mono HS.out.2.size)⟩ (fun hHeld => ?_)
          clear hK K HS B1
          try simp only [Act.put, List.setIfInBounds_toArray, List.set_cons_zero, List.set_cons_succ]
          refine wpAnyH_take (i := 17) (v := ?_) rfl (by kernel_rfl) (by kernel_rfl) (by kernel_rfl) (fun _ _ _ h => h) (Or.inl ⟨by rfl, ?_⟩) (by assumption) ?_
          rotate_left 1
          · (intro u hSw; clear hSw; go_simp; try (with_reducible rfl))
          try simp only [Act.put, List.setIfInBounds_toArray, List.set_cons_zero, List.set_cons_succ]
          refine wpAnyH_ready (rs := [18]) (by kernel_rfl) (by simp) ?_
          refine AllReadyH.cons rfl (fun K hK => ?_) AllReadyH.nil
          have HS := Lib.hid hHeld
          clear hHeld
          go_simp
          refine hK.out _ _ HS.out (fun hHeld => ?_)
          clear hK K HS
          try simp only [Act.put, List.setIfInBounds_toArray, List.set_cons_zero, List.set_cons_succ]
          have HE := Lib.hid hHeld
          clear hHeld
          refine wpAnyH_done (by kernel_rfl) ?_ _
          try simp only [Act.put, List.setIfInBounds_toArray, List.set_cons_zero, List.set_cons_succ]
          obtain ⟨k0, k1, k2, k3, k4, k5, k6, k7, k8⟩ := pkCells HE.out.1
          clear k0 k1 k2 k3 k4 k5 k6 k7
          go_wp2_with fail
          refine (ipSum_any _ _ (by rw [HT.out.1]; exact HT.out.2.2)).mono ?_
          rintro e w9 ⟨rfl, B9⟩
          have H9 := Lib.hid (HE.out.2.trans (B9.mono HE.out.2.size))
          clear B9
          simp only []
          go_wp2_with fail
          go_ret
          exact ⟨by rw [HT.out.1]; rfl, H9.out⟩
        case mo4 =>
          refine AllReadyH.cons rfl (fun K hK => ?_) AllReadyH.nil
          have HS := Lib.hid hHeld
          clear hHeld
          go_simp
          refine (put16 d.size _ HZ.out.1).mono ?_
          rintro e w1 ⟨rfl, B1⟩
          rw [← HX.out.2.2.2]
          simp only []
          refine hK.out _ _ ⟨(B1.block _ (lt_of_heap HS.out.1)).trans HS.out.1, HS.out.2.trans (B1.mono HS.out.2.size)⟩ (fun hHeld => ?_)
          have G := Lib.hid ((B1.block _ (lt_of_heap G.out)).trans G.out)
          clear hK K HS B1
          try simp only [Act.put, List.setIfInBounds_toArray, List.set_cons_zero, List.set_cons_succ]
          refine wpAnyH_ready (rs := [10]) (by kernel_rfl) (by simp) ?_
          refine AllReadyH.cons rfl (fun K hK => ?_) AllReadyH.nil
          have HS := Lib.hid hHeld
          clear hHeld
          have hcv := two_conv HOK.out.2.2 G.out
          rw [← HX.out.2.2.1] at hcv
          go_simp
          refine hK.out _ _ HS.out (fun hHeld => ?_)
          clear hK K HS hcv G
          try simp only [Act.put, List.setIfInBounds_toArray, List.set_cons_zero, List.set_cons_succ]
          refine wpAnyH_take (i := 11) (v := ?_) rfl (by kernel_rfl) (by kernel_rfl) (by kernel_rfl) (fun _ _ _ h => h) (Or.inl ⟨by rfl, ?_⟩) (by assumption) ?_
          rotate_left 1
          · (intro u hSw; clear hSw; go_simp; try (with_reducible rfl))
          try simp only [Act.put, List.setIfInBounds_toArray, List.set_cons_zero, List.set_cons_succ]
          refine wpAnyH_take (i := 17) (v := ?_) rfl (by kernel_rfl) (by kernel_rfl) (by kernel_rfl) (fun _ _ _ h => h) (Or.inl ⟨by rfl, ?_⟩) (by assumption) ?_
          rotate_left 1
          · (intro u hSw; clear hSw; go_simp; try (with_reducible rfl))
          try simp only [Act.put, List.setIfInBounds_toArray, List.set_cons_zero, List.set_cons_succ]
          refine wpAnyH_ready (rs := [18]) (by kernel_rfl) (by simp) ?_
          refine AllReadyH.cons rfl (fun K hK => ?_) AllReadyH.nil
          have HS := Lib.hid hHeld
          clear hHeld
          go_simp
          refine hK.out _ _ HS.out (fun hHeld => ?_)
          clear hK K HS
          try simp only [Act.put, List.setIfInBounds_toArray, List.set_cons_zero, List.set_cons_succ]
          have HE := Lib.hid hHeld
          clear hHeld
          refine wpAnyH_done (by kernel_rfl) ?_ _
          try simp only [Act.put, List.setIfInBounds_toArray, List.set_cons_zero, List.set_cons_succ]
          obtain ⟨k0, k1, k2, k3, k4, k5, k6, k7, k8⟩ := pkCells HE.out.1
          clear k0 k1 k2 k3 k4 k5 k6 k7
          go_wp2_with fail
          refine (ipSum_any _ _ (by rw [HT.out.1]; exact HT.out.2.2)).mono ?_
          rintro e w9 ⟨rfl, B9⟩
          have H9 := Lib.hid (HE.out.2.trans (B9.mono HE.out.2.size))
          clear B9
          simp only []
          go_wp2_with fail
          go_ret
          exact ⟨by rw [HT.out.1]; rfl, H9.out⟩
      case mo3 =>
        refine AllReadyH.cons rfl (fun K hK => ?_) AllReadyH.nil
        have HS := Lib.hid hHeld
        clear hHeld
        go_simp
        refine (put16 d.size _ HZ.out.1).mono ?_
        rintro e w1 ⟨rfl, B1⟩
        rw [← HX.out.2.2.2]
        simp only []
        refine hK.out _ _ ⟨(B1.block _ (lt_of_heap HS.out.1)).trans HS.out.1, HS.out.2.trans (B1.mono HS.out.2.size)⟩ (fun hHeld => ?_)
        clear hK K HS B1
        try simp only [Act.put, List.setIfInBounds_toArray, List.set_cons_zero, List.set_cons_succ]
        refine wpAnyH_ready (rs := [9]) (by kernel_rfl) (by simp) ?_
        refine AllReadyH.cons rfl (fun K hK => ?_) AllReadyH.nil
        have HS := Lib.hid hHeld
        clear hHeld
        go_simp
        refine hK.out _ _ ⟨(heap_keep _ _ (lt_of_heap HS.out.1)).trans HS.out.1, HS.out.2.alloc HS.out.2.size _⟩ (fun hHeld => ?_)
        have G : (w1.alloc (.cells #[.int .u8 0, .int .u8 (pr : Int)] 5)).heap[w1.heap.size]? = some (.cells #[.int .u8 0, .int .u8 (pr : Int)] 5) := heap_alloc_last w1 _
        clear hK K HS
        obtain ⟨g, hgg⟩ : ∃ g, g = w1.heap.size := ⟨_, rfl⟩
        rw [← hgg] at G
        rw [← hgg]
        have G := Lib.hid G
        clear hgg
        try simp only [Act.put, List.setIfInBounds_toArray, List.set_cons_zero, List.set_cons_succ]
        refine wpAnyH_ready (rs := [10]) (by kernel_rfl) (by simp) ?_
        refine AllReadyH.cons rfl (fun K hK => ?_) AllReadyH.nil
        have HS := Lib.hid hHeld
        clear hHeld
        have hcv := two_conv HOK.out.2.2 G.out
        rw [← HX.out.2.2.1] at hcv
        go_simp
        refine hK.out _ _ HS.out (fun hHeld => ?_)
        clear hK K HS hcv G
        try simp only [Act.put, List.setIfInBounds_toArray, List.set_cons_zero, List.set_cons_succ]
        refine wpAnyH_take (i := 11) (v := ?_) rfl (by kernel_rfl) (by kernel_rfl) (by kernel_rfl) (fun _ _ _ h => h) (Or.inl ⟨by rfl, ?_⟩) (by assumption) ?_
        rotate_left 1
        · (intro u hSw; clear hSw; go_simp; try (with_reducible rfl))
        try simp only [Act.put, List.setIfInBounds_toArray, List.set_cons_zero, List.set_cons_succ]
        refine wpAnyH_take (i := 17) (v := ?_) rfl (by kernel_rfl) (by kernel_rfl) (by kernel_rfl) (fun _ _ _ h => h) (Or.inl ⟨by rfl, ?_⟩) (by assumption) ?_
        rotate_left 1
        · (intro u hSw; clear hSw; go_simp; try (with_reducible rfl))
        try simp only [Act.put, List.setIfInBounds_toArray, List.set_cons_zero, List.set_cons_succ]
        refine wpAnyH_ready (rs := [18]) (by kernel_rfl) (by simp) ?_
        refine AllReadyH.cons rfl (fun K hK => ?_) AllReadyH.nil
        have HS := Lib.hid hHeld
        clear hHeld
        go_simp
        refine hK.out _ _ HS.out (fun hHeld => ?_)
        clear hK K HS
        try simp only [Act.put, List.setIfInBounds_toArray, List.set_cons_zero, List.set_cons_succ]
        have HE := Lib.hid hHeld
        clear hHeld
        refine wpAnyH_done (by kernel_rfl) ?_ _
        try simp only [Act.put, List.setIfInBounds_toArray, List.set_cons_zero, List.set_cons_succ]
        obtain ⟨k0, k1, k2, k3, k4, k5, k6, k7, k8⟩ := pkCells HE.out.1
        clear k0 k1 k2 k3 k4 k5 k6 k7
        go_wp2_with fail
        refine (ipSum_any _ _ (by rw [HT.out.1]; exact HT.out.2.2)).mono ?_
        rintro e w9 ⟨rfl, B9⟩
        have H9 := Lib.hid (HE.out.2.trans (B9.mono HE.out.2.size))
        clear B9
        simp only []
        go_wp2_with fail
        go_ret
        exact ⟨by rw [HT.out.1]; rfl, H9.out⟩
    case mo2 =>
      refine AllReadyH.cons rfl (fun K hK => ?_) AllReadyH.nil
      have HS := Lib.hid hHeld
      clear hHeld
      go_simp
      refine hK.out _ _ ⟨(heap_keep _ _ (lt_of_heap HS.out.1)).trans HS.out.1, HS.out.2.alloc HS.out.2.size _⟩ (fun hHeld => ?_)
      have G : (w1.alloc (.cells #[.int .u8 0, .int .u8 (pr : Int)] 5)).heap[w1.heap.size]? = some (.cells #[.int .u8 0, .int .u8 (pr : Int)] 5) := heap_alloc_last w1 _
      clear hK K HS
      obtain ⟨g, hgg⟩ : ∃ g, g = w1.heap.size := ⟨_, rfl⟩
      rw [← hgg] at G
      rw [← hgg]
      have G := Lib.hid G
      clear hgg
      try simp only [Act.put, List.setIfInBounds_toArray, List.set_cons_zero, List.set_cons_succ]
      refine wpAnyH_ready (rs := [5, 10]) (by kernel_rfl) (by simp) ?_
      refine AllReadyH.cons (i := 5) (o := ?o5) ?ho5 (fun K hK => ?st5) ?mo5
      case ho5 => rfl
      case st5 =>
        have HS := Lib.hid hHeld
        clear hHeld
        go_simp
        refine (addr_any ⟨v2, h2, l2⟩ _ HOK.out.2.1).mono ?_
        rintro e w1 ⟨rfl, B1⟩
        rw [← HX.out.2.1]
        simp only []
        refine hK.out _ _ ⟨(B1.block _ (lt_of_heap HS.out.1)).trans HS.out.1, HS.out.2.trans (B1.mono HS.out.2.size)⟩ (fun hHeld => ?_)
        have G := Lib.hid ((B1.block _ (lt_of_heap G.out)).trans G.out)
        clear hK K HS B1
        try simp only [Act.put, List.setIfInBounds_toArray, List.set_cons_zero, List.set_cons_succ]
        refine wpAnyH_take (i := 6) (v := ?_) rfl (by kernel_rfl) (by kernel_rfl) (by kernel_rfl) (fun _ _ _ h => h) (Or.inl ⟨by rfl, ?_⟩) (by assumption) ?_
        rotate_left 1
        · (intro u hSw; clear hSw; go_simp; try (with_reducible rfl))
        try simp only [Act.put, List.setIfInBounds_toArray, List.set_cons_zero, List.set_cons_succ]
        refine wpAnyH_ready (rs := [10, 16]) (by kernel_rfl) (by simp) ?_
        refine AllReadyH.cons (i := 10) (o := ?o6) ?ho6 (fun K hK => ?st6) ?mo6
        case ho6 => rfl
        case st6 =>
          have HS := Lib.hid hHeld
          clear hHeld
          have hcv := two_conv HOK.out.2.2 G.out
          rw [← HX.out.2.2.1] at hcv
          go_simp
          refine hK.out _ _ HS.out (fun hHeld => ?_)
          clear hK K HS hcv G
          try simp only [Act.put, List.setIfInBounds_toArray, List.set_cons_zero, List.set_cons_succ]
          refine wpAnyH_take (i := 11) (v := ?_) rfl (by kernel_rfl) (by kernel_rfl) (by kernel_rfl) (fun _ _ _ h => h) (Or.inl ⟨by rfl, ?_⟩) (by assumption) ?_
          rotate_left 1
          · (intro u hSw; clear hSw; go_simp; try (with_reducible rfl))
          try simp only [Act.put, List.setIfInBounds_toArray, List.set_cons_zero, List.set_cons_succ]
          refine wpAnyH_ready (rs := [16]) (by kernel_rfl) (by simp) ?_
          refine AllReadyH.cons rfl (fun K hK => ?_) AllReadyH.nil
          have HS := Lib.hid hHeld
          clear hHeld
          go_simp
          refine (put16 d.size _ HZ.out.1).mono ?_
          rintro e w1 ⟨rfl, B1⟩
          rw [← HX.out.2.2.2]
          simp only []
          refine hK.out _ _ ⟨(B1.block _ (lt_of_heap HS.out.1)).trans HS.out.1, HS.out.2.trans (B1.mono HS.out.2.size)⟩ (fun hHeld => ?_)
          clear hK K HS B1
          try simp only [Act.put, List.setIfInBounds_toArray, List.set_cons_zero, List.set_cons_succ]
          refine wpAnyH_take (i := 17) (v := ?_) rfl (by kernel_rfl) (by kernel_rfl) (by kernel_rfl) (fun _ _ _ h => h) (Or.inl ⟨by rfl, ?_⟩) (by assumption) ?_
          rotate_left 1
          · (intro u hSw; clear hSw; go_simp; try (with_reducible rfl))
          try simp only [Act.put, List.setIfInBounds_toArray, List.set_cons_zero, List.set_cons_succ]
          refine wpAnyH_ready (rs := [18]) (by kernel_rfl) (by simp) ?_
          refine AllReadyH.cons rfl (fun K hK => ?_) AllReadyH.nil
          have HS := Lib.hid hHeld
          clear hHeld
          go_simp
          refine hK.out _ _ HS.out (fun hHeld => ?_)
          clear hK K HS
          try simp only [Act.put, List.setIfInBounds_toArray, List.set_cons_zero, List.set_cons_succ]
          have HE := Lib.hid hHeld
          clear hHeld
          refine wpAnyH_done (by kernel_rfl) ?_ _
          try simp only [Act.put, List.setIfInBounds_toArray, List.set_cons_zero, List.set_cons_succ]
          obtain ⟨k0, k1, k2, k3, k4, k5, k6, k7, k8⟩ := pkCells HE.out.1
          clear k0 k1 k2 k3 k4 k5 k6 k7
          go_wp2_with fail
          refine (ipSum_any _ _ (by rw [HT.out.1]; exact HT.out.2.2)).mono ?_
          rintro e w9 ⟨rfl, B9⟩
          have H9 := Lib.hid (HE.out.2.trans (B9.mono HE.out.2.size))
          clear B9
          simp only []
          go_wp2_with fail
          go_ret
          exact ⟨by rw [HT.out.1]; rfl, H9.out⟩
        case mo6 =>
          refine AllReadyH.cons rfl (fun K hK => ?_) AllReadyH.nil
          have HS := Lib.hid hHeld
          clear hHeld
          go_simp
          refine (put16 d.size _ HZ.out.1).mono ?_
          rintro e w1 ⟨rfl, B1⟩
          rw [← HX.out.2.2.2]
          simp only []
          refine hK.out _ _ ⟨(B1.block _ (lt_of_heap HS.out.1)).trans HS.out.1, HS.out.2.trans (B1.mono HS.out.2.size)⟩ (fun hHeld => ?_)
          have G := Lib.hid ((B1.block _ (lt_of_heap G.out)).trans G.out)
          clear hK K HS B1
          try simp only [Act.put, List.setIfInBounds_toArray, List.set_cons_zero, List.set_cons_succ]
          refine wpAnyH_ready (rs := [10]) (by kernel_rfl) (by simp) ?_
          refine AllReadyH.cons rfl (fun K hK => ?_) AllReadyH.nil
          have HS := Lib.hid hHeld
          clear hHeld
          have hcv := two_conv HOK.out.2.2 G.out
          rw [← HX.out.2.2.1] at hcv
          go_simp
          refine hK.out _ _ HS.out (fun hHeld => ?_)
          clear hK K HS hcv G
          try simp only [Act.put, List.setIfInBounds_toArray, List.set_cons_zero, List.set_cons_succ]
          refine wpAnyH_take (i := 11) (v := ?_) rfl (by kernel_rfl) (by kernel_rfl) (by kernel_rfl) (fun _ _ _ h => h) (Or.inl ⟨by rfl, ?_⟩) (by assumption) ?_
          rotate_left 1
          · (intro u hSw; clear hSw; go_simp; try (with_reducible rfl))
          try simp only [Act.put, List.setIfInBounds_toArray, List.set_cons_zero, List.set_cons_succ]
          refine wpAnyH_take (i := 17) (v := ?_) rfl (by kernel_rfl) (by kernel_rfl) (by kernel_rfl) (fun _ _ _ h => h) (Or.inl ⟨by rfl, ?_⟩) (by assumption) ?_
          rotate_left 1
          · (intro u hSw; clear hSw; go_simp; try (with_reducible rfl))
          try simp only [Act.put, List.setIfInBounds_toArray, List.set_cons_zero, List.set_cons_succ]
          refine wpAnyH_ready (rs := [18]) (by kernel_rfl) (by simp) ?_
          refine AllReadyH.cons rfl (fun K hK => ?_) AllReadyH.nil
          have HS := Lib.hid hHeld
          clear hHeld
          go_simp
          refine hK.out _ _ HS.out (fun hHeld => ?_)
          clear hK K HS
          try simp only [Act.put, List.setIfInBounds_toArray, List.set_cons_zero, List.set_cons_succ]
          have HE := Lib.hid hHeld
          clear hHeld
          refine wpAnyH_done (by kernel_rfl) ?_ _
          try simp only [Act.put, List.setIfInBounds_toArray, List.set_cons_zero, List.set_cons_succ]
          obtain ⟨k0, k1, k2, k3, k4, k5, k6, k7, k8⟩ := pkCells HE.out.1
          clear k0 k1 k2 k3 k4 k5 k6 k7
          go_wp2_with fail
          refine (ipSum_any _ _ (by rw [HT.out.1]; exact HT.out.2.2)).mono ?_
          rintro e w9 ⟨rfl, B9⟩
          have H9 := Lib.hid (HE.out.2.trans (B9.mono HE.out.2.size))
          clear B9
          simp only []
          go_wp2_with fail
          go_ret
          exact ⟨by rw [HT.out.1]; rfl, H9.out⟩
      case mo5 =>
        refine AllReadyH.cons rfl (fun K hK => ?_) AllReadyH.nil
        have HS := Lib.hid hHeld
        clear hHeld
        have hcv := two_conv HOK.out.2.2 G.out
        rw [← HX.out.2.2.1] at hcv
        go_simp
        refine hK.out _ _ HS.out (fun hHeld => ?_)
        clear hK K HS hcv G
        try simp only [Act.put, List.setIfInBounds_toArray, List.set_cons_zero, List.set_cons_succ]
        refine wpAnyH_ready (rs := [5]) (by kernel_rfl) (by simp) ?_
        refine AllReadyH.cons rfl (fun K hK => ?_) AllReadyH.nil
        have HS := Lib.hid hHeld
        clear hHeld
        go_simp
        refine (addr_any ⟨v2, h2, l2⟩ _ HOK.out.2.1).mono ?_
        rintro e w1 ⟨rfl, B1⟩
        rw [← HX.out.2.1]
        simp only []
        refine hK.out _ _ ⟨(B1.block _ (lt_of_heap HS.out.1)).trans HS.out.1, HS.out.2.trans (B1.mono HS.out.2.size)⟩ (fun hHeld => ?_)
        clear hK K HS B1
        try simp only [Act.put, List.setIfInBounds_toArray, List.set_cons_zero, List.set_cons_succ]
        refine wpAnyH_take (i := 6) (v := ?_) rfl (by kernel_rfl) (by kernel_rfl) (by kernel_rfl) (fun _ _ _ h => h) (Or.inl ⟨by rfl, ?_⟩) (by assumption) ?_
        rotate_left 1
        · (intro u hSw; clear hSw; go_simp; try (with_reducible rfl))
        try simp only [Act.put, List.setIfInBounds_toArray, List.set_cons_zero, List.set_cons_succ]
        refine wpAnyH_take (i := 11) (v := ?_) rfl (by kernel_rfl) (by kernel_rfl) (by kernel_rfl) (fun _ _ _ h => h) (Or.inl ⟨by rfl, ?_⟩) (by assumption) ?_
        rotate_left 1
        · (intro u hSw; clear hSw; go_simp; try (with_reducible rfl))
        try simp only [Act.put, List.setIfInBounds_toArray, List.set_cons_zero, List.set_cons_succ]
        refine wpAnyH_ready (rs := [16]) (by kernel_rfl) (by simp) ?_
        refine AllReadyH.cons rfl (fun K hK => ?_) AllReadyH.nil
        have HS := Lib.hid hHeld
        clear hHeld
        go_simp
        refine (put16 d.size _ HZ.out.1).mono ?_
        rintro e w1 ⟨rfl, B1⟩
        rw [← HX.out.2.2.2]
        simp only []
        refine hK.out _ _ ⟨(B1.block _ (lt_of_heap HS.out.1)).trans HS.out.1, HS.out.2.trans (B1.mono HS.out.2.size)⟩ (fun hHeld => ?_)
        clear hK K HS B1
        try simp only [Act.put, List.setIfInBounds_toArray, List.set_cons_zero, List.set_cons_succ]
        refine wpAnyH_take (i := 17) (v := ?_) rfl (by kernel_rfl) (by kernel_rfl) (by kernel_rfl) (fun _ _ _ h => h) (Or.inl ⟨by rfl, ?_⟩) (by assumption) ?_
        rotate_left 1
        · (intro u hSw; clear hSw; go_simp; try (with_reducible rfl))
        try simp only [Act.put, List.setIfInBounds_toArray, List.set_cons_zero, List.set_cons_succ]
        refine wpAnyH_ready (rs := [18]) (by kernel_rfl) (by simp) ?_
        refine AllReadyH.cons rfl (fun K hK => ?_) AllReadyH.nil
        have HS := Lib.hid hHeld
        clear hHeld
        go_simp
        refine hK.out _ _ HS.out (fun hHeld => ?_)
        clear hK K HS
        try simp only [Act.put, List.setIfInBounds_toArray, List.set_cons_zero, List.set_cons_succ]
        have HE := Lib.hid hHeld
        clear hHeld
        refine wpAnyH_done (by kernel_rfl) ?_ _
        try simp only [Act.put, List.setIfInBounds_toArray, List.set_cons_zero, List.set_cons_succ]
        obtain ⟨k0, k1, k2, k3, k4, k5, k6, k7, k8⟩ := pkCells HE.out.1
        clear k0 k1 k2 k3 k4 k5 k6 k7
        go_wp2_with fail
        refine (ipSum_any _ _ (by rw [HT.out.1]; exact HT.out.2.2)).mono ?_
        rintro e w9 ⟨rfl, B9⟩
        have H9 := Lib.hid (HE.out.2.trans (B9.mono HE.out.2.size))
        clear B9
        simp only []
        go_wp2_with fail
        go_ret
        exact ⟨by rw [HT.out.1]; rfl, H9.out⟩
  case mo1 =>
    refine AllReadyH.cons rfl (fun K hK => ?_) AllReadyH.nil
    have HS := Lib.hid hHeld
    clear hHeld
    go_simp
    refine hK.out _ _ ⟨(heap_keep _ _ (lt_of_heap HS.out.1)).trans HS.out.1, HS.out.2.alloc HS.out.2.size _⟩ (fun hHeld => ?_)
    have G : (w0.alloc (.cells #[.int .u8 0, .int .u8 (pr : Int)] 5)).drew.heap[w0.heap.size]? = some (.cells #[.int .u8 0, .int .u8 (pr : Int)] 5) := heap_alloc_last w0 _
    clear hK K HS
    obtain ⟨g, hgg⟩ : ∃ g, g = w0.heap.size := ⟨_, rfl⟩
    rw [← hgg] at G
    rw [← hgg]
    have G := Lib.hid G
    clear hgg
    try simp only [Act.put, List.setIfInBounds_toArray, List.set_cons_zero, List.set_cons_succ]
    refine wpAnyH_ready (rs := [2, 10]) (by kernel_rfl) (by simp) ?_
    refine AllReadyH.cons (i := 2) (o := ?o7) ?ho7 (fun K hK => ?st7) ?mo7
    case ho7 => rfl
    case st7 =>
      have HS := Lib.hid hHeld
      clear hHeld
      go_simp
      refine (addr_any ⟨v1, h1, l1⟩ _ HOK.out.1).mono ?_
      rintro e w1 ⟨rfl, B1⟩
      rw [← HX.out.1]
      simp only []
      refine hK.out _ _ ⟨(B1.block _ (lt_of_heap HS.out.1)).trans HS.out.1, HS.out.2.trans (B1.mono HS.out.2.size)⟩ (fun hHeld => ?_)
      have G := Lib.hid ((B1.block _ (lt_of_heap G.out)).trans G.out)
      clear hK K HS B1
      try simp only [Act.put, List.setIfInBounds_toArray, List.set_cons_zero, List.set_cons_succ]
      refine wpAnyH_ready (rs := [5, 10]) (by kernel_rfl) (by simp) ?_
      refine AllReadyH.cons (i := 5) (o := ?o8) ?ho8 (fun K hK => ?st8) ?mo8
      case ho8 => rfl
      case st8 =>
        have HS := Lib.hid hHeld
        clear hHeld
        go_simp
        refine (addr_any ⟨v2, h2, l2⟩ _ HOK.out.2.1).mono ?_
        rintro e w1 ⟨rfl, B1⟩
        rw [← HX.out.2.1]
        simp only []
        refine hK.out _ _ ⟨(B1.block _ (lt_of_heap HS.out.1)).trans HS.out.1, HS.out.2.trans (B1.mono HS.out.2.size)⟩ (fun hHeld => ?_)
        have G := Lib.hid ((B1.block _ (lt_of_heap G.out)).trans G.out)
        clear hK K HS B1
        try simp only [Act.put, List.setIfInBounds_toArray, List.set_cons_zero, List.set_cons_succ]
        refine wpAnyH_take (i := 6) (v := ?_) rfl (by kernel_rfl) (by kernel_rfl) (by kernel_rfl) (fun _ _ _ h => h) (Or.inl ⟨by rfl, ?_⟩) (by assumption) ?_
        rotate_left 1
        · (intro u hSw; clear hSw; go_simp; try (with_reducible rfl))
        try simp only [Act.put, List.setIfInBounds_toArray, List.set_cons_zero, List.set_cons_succ]
        refine wpAnyH_ready (rs := [10, 16]) (by kernel_rfl) (by simp) ?_
        refine AllReadyH.cons (i := 10) (o := ?o9) ?ho9 (fun K hK => ?st9) ?mo9
        case ho9 => rfl
        case st9 =>
          have HS := Lib.hid hHeld
          clear hHeld
          have hcv := two_conv HOK.out.2.2 G.out
          rw [← HX.out.2.2.1] at hcv
          go_simp
          refine hK.out _ _ HS.out (fun hHeld => ?_)
          clear hK K HS hcv G
          try simp only [Act.put, List.setIfInBounds_toArray, List.set_cons_zero, List.set_cons_succ]
          refine wpAnyH_take (i := 11) (v := ?_) rfl (by kernel_rfl) (by kernel_rfl) (by kernel_rfl) (fun _ _ _ h => h) (Or.inl ⟨by rfl, ?_⟩) (by assumption) ?_
          rotate_left 1
          · (intro u hSw; clear hSw; go_simp; try (with_reducible rfl))
          try simp only [Act.put, List.setIfInBounds_toArray, List.set_cons_zero, List.set_cons_succ]
          refine wpAnyH_ready (rs := [16]) (by kernel_rfl) (by simp) ?_
          refine AllReadyH.cons rfl (fun K hK => ?_) AllReadyH.nil
          have HS := Lib.hid hHeld
          clear hHeld
          go_simp
          refine (put16 d.size _ HZ.out.1).mono ?_
          rintro e w1 ⟨rfl, B1⟩
          rw [← HX.out.2.2.2]
          simp only []
          refine hK.out _ _ ⟨(B1.block _ (lt_of_heap HS.out.1)).trans HS.out.1, HS.out.2.trans (B1.mono HS.out.2.size)⟩ (fun hHeld => ?_)
          clear hK K HS B1
          try simp only [Act.put, List.setIfInBounds_toArray, List.set_cons_zero, List.set_cons_succ]
          refine wpAnyH_take (i := 17) (v := ?_) rfl (by kernel_rfl) (by kernel_rfl) (by kernel_rfl) (fun _ _ _ h => h) (Or.inl ⟨by rfl, ?_⟩) (by assumption) ?_
          rotate_left 1
          · (intro u hSw; clear hSw; go_simp; try (with_reducible rfl))
          try simp only [Act.put, List.setIfInBounds_toArray, List.set_cons_zero, List.set_cons_succ]
          refine wpAnyH_ready (rs := [18]) (by kernel_rfl) (by simp) ?_
          refine AllReadyH.cons rfl (fun K hK => ?_) AllReadyH.nil
          have HS := Lib.hid hHeld
          clear hHeld
          go_simp
          refine hK.out _ _ HS.out (fun hHeld => ?_)
          clear hK K HS
          try simp only [Act.put, List.setIfInBounds_toArray, List.set_cons_zero, List.set_cons_succ]
          have HE := Lib.hid hHeld
          clear hHeld
          refine wpAnyH_done (by kernel_rfl) ?_ _
          try simp only [Act.put, List.setIfInBounds_toArray, List.set_cons_zero, List.set_cons_succ]
          obtain ⟨k0, k1, k2, k3, k4, k5, k6, k7, k8⟩ := pkCells HE.out.1
          clear k0 k1 k2 k3 k4 k5 k6 k7
          go_wp2_with fail
          refine (ipSum_any _ _ (by rw [HT.out.1]; exact HT.out.2.2)).mono ?_
          rintro e w9 ⟨rfl, B9⟩
          have H9 := Lib.hid (HE.out.2.trans (B9.mono HE.out.2.size))
          clear B9
          simp only []
          go_wp2_with fail
          go_ret
          exact ⟨by rw [HT.out.1]; rfl, H9.out⟩
        case mo9 =>
          refine AllReadyH.cons rfl (fun K hK => ?_) AllReadyH.nil
          have HS := Lib.hid hHeld
          clear hHeld
          go_simp
          refine (put16 d.size _ HZ.out.1).mono ?_
          rintro e w1 ⟨rfl, B1⟩
          rw [← HX.out.2.2.2]
          simp only []
          refine hK.out _ _ ⟨(B1.block _ (lt_of_heap HS.out.1)).trans HS.out.1, HS.out.2.trans (B1.mono HS.out.2.size)⟩ (fun hHeld => ?_)
          have G := Lib.hid ((B1.block _ (lt_of_heap G.out)).trans G.out)
          clear hK K HS B1
          try simp only [Act.put, List.setIfInBounds_toArray, List.set_cons_zero, List.set_cons_succ]
          refine wpAnyH_ready (rs := [10]) (by kernel_rfl) (by simp) ?_
          refine AllReadyH.cons rfl (fun K hK => ?_) AllReadyH.nil
          have HS := Lib.hid hHeld
          clear hHeld
          have hcv := two_conv HOK.out.2.2 G.out
          rw [← HX.out.2.2.1] at hcv
          go_simp
          refine hK.out _ _ HS.out (fun hHeld => ?_)
          clear hK K HS hcv G
          try simp only [Act.put, List.setIfInBounds_toArray, List.set_cons_zero, List.set_cons_succ]
          refine wpAnyH_take (i := 11) (v := ?_) rfl (by kernel_rfl) (by kernel_rfl) (by kernel_rfl) (fun _ _ _ h => h) (Or.inl ⟨by rfl, ?_⟩) (by assumption) ?_
          rotate_left 1
          · (intro u hSw; clear hSw; go_simp; try (with_reducible rfl))
          try simp only [Act.put, List.setIfInBounds_toArray, List.set_cons_zero, List.set_cons_succ]
          refine wpAnyH_take (i := 17) (v := ?_) rfl (by kernel_rfl) (by kernel_rfl) (by kernel_rfl) (fun _ _ _ h => h) (Or.inl ⟨by rfl, ?_⟩) (by assumption) ?_
          rotate_left 1
          · (intro u hSw; clear hSw; go_simp; try (with_reducible rfl))
          try simp only [Act.put, List.setIfInBounds_toArray, List.set_cons_zero, List.set_cons_succ]
          refine wpAnyH_ready (rs := [18]) (by kernel_rfl) (by simp) ?_
          refine AllReadyH.cons rfl (fun K hK => ?_) AllReadyH.nil
          have HS := Lib.hid hHeld
          clear hHeld
          go_simp
          refine hK.out _ _ HS.out (fun hHeld => ?_)
          clear hK K HS
          try simp only [Act.put, List.setIfInBounds_toArray, List.set_cons_zero, List.set_cons_succ]
          have HE := Lib.hid hHeld
          clear hHeld
          refine wpAnyH_done (by kernel_rfl) ?_ _
          try simp only [Act.put, List.setIfInBounds_toArray, List.set_cons_zero, List.set_cons_succ]
          obtain ⟨k0, k1, k2, k3, k4, k5, k6, k7, k8⟩ := pkCells HE.out.1
          clear k0 k1 k2 k3 k4 k5 k6 k7
          go_wp2_with fail
          refine (ipSum_any _ _ (by rw [HT.out.1]; exact HT.out.2.2)).mono ?_
          rintro e w9 ⟨rfl, B9⟩
          have H9 := Lib.hid (HE.out.2.trans (B9.mono HE.out.2.size))
          clear B9
          simp only []
          go_wp2_with fail
          go_ret
          exact ⟨by rw [HT.out.1]; rfl, H9.out⟩
      case mo8 =>
        refine AllReadyH.cons rfl (fun K hK => ?_) AllReadyH.nil
        have HS := Lib.hid hHeld
        clear hHeld
        have hcv := two_conv HOK.out.2.2 G.out
        rw [← HX.out.2.2.1] at hcv
        go_simp
        refine hK.out _ _ HS.out (fun hHeld => ?_)
        clear hK K HS hcv G
        try simp only [Act.put, List.setIfInBounds_toArray, List.set_cons_zero, List.set_cons_succ]
        refine wpAnyH_ready (rs := [5]) (by kernel_rfl) (by simp) ?_
        refine AllReadyH.cons rfl (fun K hK => ?_) AllReadyH.nil
        have HS := Lib.hid hHeld
        clear hHeld
        go_simp
        refine (addr_any ⟨v2, h2, l2⟩ _ HOK.out.2.1).mono ?_
        rintro e w1 ⟨rfl, B1⟩
        rw [← HX.out.2.1]
        simp only []
        refine hK.out _ _ ⟨(B1.block _ (lt_of_heap HS.out.1)).trans HS.out.1, HS.out.2.trans (B1.mono HS.out.2.size)⟩ (fun hHeld => ?_)
        clear hK K HS B1
        try simp only [Act.put, List.setIfInBounds_toArray, List.set_cons_zero, List.set_cons_succ]
        refine wpAnyH_take (i := 6) (v := ?_) rfl (by kernel_rfl) (by kernel_rfl) (by kernel_rfl) (fun _ _ _ h => h) (Or.inl ⟨by rfl, ?_⟩) (by assumption) ?_
        rotate_left 1
        · (intro u hSw; clear hSw; go_simp; try (with_reducible rfl))
        try simp only [Act.put, List.setIfInBounds_toArray, List.set_cons_zero, List.set_cons_succ]
        refine wpAnyH_take (i := 11) (v := ?_) rfl (by kernel_rfl) (by kernel_rfl) (by kernel_rfl) (fun _ _ _ h => h) (Or.inl ⟨by rfl, ?_⟩) (by assumption) ?_
        rotate_left 1
        · (intro u hSw; clear hSw; go_simp; try (with_reducible rfl))
        try simp only [Act.put, List.setIfInBounds_toArray, List.set_cons_zero, List.set_cons_succ]
        refine wpAnyH_ready (rs := [16]) (by kernel_rfl) (by simp) ?_
        refine AllReadyH.cons rfl (fun K hK => ?_) AllReadyH.nil
        have HS := Lib.hid hHeld
        clear hHeld
        go_simp
        refine (put16 d.size _ HZ.out.1).mono ?_
        rintro e w1 ⟨rfl, B1⟩
        rw [← HX.out.2.2.2]
        simp only []
        refine hK.out _ _ ⟨(B1.block _ (lt_of_heap HS.out.1)).trans HS.out.1, HS.out.2.trans (B1.mono HS.out.2.size)⟩ (fun hHeld => ?_)
        clear hK K HS B1
        try simp only [Act.put, List.setIfInBounds_toArray, List.set_cons_zero, List.set_cons_succ]
        refine wpAnyH_take (i := 17) (v := ?_) rfl (by kernel_rfl) (by kernel_rfl) (by kernel_rfl) (fun _ _ _ h => h) (Or.inl ⟨by rfl, ?_⟩) (by assumption) ?_
        rotate_left 1
        · (intro u hSw; clear hSw; go_simp; try (with_reducible rfl))
        try simp only [Act.put, List.setIfInBounds_toArray, List.set_cons_zero, List.set_cons_succ]
        refine wpAnyH_ready (rs := [18]) (by kernel_rfl) (by simp) ?_
        refine AllReadyH.cons rfl (fun K hK => ?_) AllReadyH.nil
        have HS := Lib.hid hHeld
        clear hHeld
        go_simp
        refine hK.out _ _ HS.out (fun hHeld => ?_)
        clear hK K HS
        try simp only [Act.put, List.setIfInBounds_toArray, List.set_cons_zero, List.set_cons_succ]
        have HE := Lib.hid hHeld
        clear hHeld
        refine wpAnyH_done (by kernel_rfl) ?_ _
        try simp only [Act.put, List.setIfInBounds_toArray, List.set_cons_zero, List.set_cons_succ]
        obtain ⟨k0, k1, k2, k3, k4, k5, k6, k7, k8⟩ := pkCells HE.out.1
        clear k0 k1 k2 k3 k4 k5 k6 k7
        go_wp2_with fail
        refine (ipSum_any _ _ (by rw [HT.out.1]; exact HT.out.2.2)).mono ?_
        rintro e w9 ⟨rfl, B9⟩
        have H9 := Lib.hid (HE.out.2.trans (B9.mono HE.out.2.size))
        clear B9
        simp only []
        go_wp2_with fail
        go_ret
        exact ⟨by rw [HT.out.1]; rfl, H9.out⟩
    case mo7 =>
      refine AllReadyH.cons rfl (fun K hK => ?_) AllReadyH.nil
      have HS := Lib.hid hHeld
      clear hHeld
      have hcv := two_conv HOK.out.2.2 G.out
      rw [← HX.out.2.2.1] at hcv
      go_simp
      refine hK.out _ _ HS.out (fun hHeld => ?_)
      clear hK K HS hcv G
      try simp only [Act.put, List.setIfInBounds_toArray, List.set_cons_zero, List.set_cons_succ]
      refine wpAnyH_ready (rs := [2]) (by kernel_rfl) (by simp) ?_
      refine AllReadyH.cons rfl (fun K hK => ?_) AllReadyH.nil
      have HS := Lib.hid hHeld
      clear hHeld
      go_simp
      refine (addr_any ⟨v1, h1, l1⟩ _ HOK.out.1).mono ?_
      rintro e w1 ⟨rfl, B1⟩
      rw [← HX.out.1]
      simp only []
      refine hK.out _ _ ⟨(B1.block _ (lt_of_heap HS.out.1)).trans HS.out.1, HS.out.2.trans (B1.mono HS.out.2.size)⟩ (fun hHeld => ?_)
      clear hK K HS B1
      try simp only [Act.put, List.setIfInBounds_toArray, List.set_cons_zero, List.set_cons_succ]
      refine wpAnyH_ready (rs := [5]) (by kernel_rfl) (by simp) ?_
      refine AllReadyH.cons rfl (fun K hK => ?_) AllReadyH.nil
      have HS := Lib.hid hHeld
      clear hHeld
      go_simp
      refine (addr_any ⟨v2, h2, l2⟩ _ HOK.out.2.1).mono ?_
      rintro e w1 ⟨rfl, B1⟩
      rw [← HX.out.2.1]
      simp only []
      refine hK.out _ _ ⟨(B1.block _ (lt_of_heap HS.out.1)).trans HS.out.1, HS.out.2.trans (B1.mono HS.out.2.size)⟩ (fun hHeld => ?_)
      clear hK K HS B1
      try simp only [Act.put, List.setIfInBounds_toArray, List.set_cons_zero, List.set_cons_succ]
      refine wpAnyH_take (i := 6) (v := ?_) rfl (by kernel_rfl) (by kernel_rfl) (by kernel_rfl) (fun _ _ _ h => h) (Or.inl ⟨by rfl, ?_⟩) (by assumption) ?_
      rotate_left 1
      · (intro u hSw; clear hSw; go_simp; try (with_reducible rfl))
      try simp only [Act.put, List.setIfInBounds_toArray, List.set_cons_zero, List.set_cons_succ]
      refine wpAnyH_take (i := 11) (v := ?_) rfl (by kernel_rfl) (by kernel_rfl) (by kernel_rfl) (fun _ _ _ h => h) (Or.inl ⟨by rfl, ?_⟩) (by assumption) ?_
      rotate_left 1
      · (intro u hSw; clear hSw; go_simp; try (with_reducible rfl))
      try simp only [Act.put, List.setIfInBounds_toArray, List.set_cons_zero, List.set_cons_succ]
      refine wpAnyH_ready (rs := [16]) (by kernel_rfl) (by simp) ?_
      refine AllReadyH.cons rfl (fun K hK => ?_) AllReadyH.nil
      have HS := Lib.hid hHeld
      clear hHeld
      go_simp
      refine (put16 d.size _ HZ.out.1).mono ?_
      rintro e w1 ⟨rfl, B1⟩
      rw [← HX.out.2.2.2]
      simp only []
      refine hK.out _ _ ⟨(B1.block _ (lt_of_heap HS.out.1)).trans HS.out.1, HS.out.2.trans (B1.mono HS.out.2.size)⟩ (fun hHeld => ?_)
      clear hK K HS B1
      try simp only [Act.put, List.setIfInBounds_toArray, List.set_cons_zero, List.set_cons_succ]
      refine wpAnyH_take (i := 17) (v := ?_) rfl (by kernel_rfl) (by kernel_rfl) (by kernel_rfl) (fun _ _ _ h => h) (Or.inl ⟨by rfl, ?_⟩) (by assumption) ?_
      rotate_left 1
      · (intro u hSw; clear hSw; go_simp; try (with_reducible rfl))
      try simp only [Act.put, List.setIfInBounds_toArray, List.set_cons_zero, List.set_cons_succ]
      refine wpAnyH_ready (rs := [18]) (by kernel_rfl) (by simp) ?_
      refine AllReadyH.cons rfl (fun K hK => ?_) AllReadyH.nil
      have HS := Lib.hid hHeld
      clear hHeld
      go_simp
      refine hK.out _ _ HS.out (fun hHeld => ?_)
      clear hK K HS
      try simp only [Act.put, List.setIfInBounds_toArray, List.set_cons_zero, List.set_cons_succ]
      have HE := Lib.hid hHeld
      clear hHeld
      refine wpAnyH_done (by kernel_rfl) ?_ _
      try simp only [Act.put, List.setIfInBounds_toArray, List.set_cons_zero, List.set_cons_succ]
      obtain ⟨k0, k1, k2, k3, k4, k5, k6, k7, k8⟩ := pkCells HE.out.1
      clear k0 k1 k2 k3 k4 k5 k6 k7
      go_wp2_with fail
      refine (ipSum_any _ _ (by rw [HT.out.1]; exact HT.out.2.2)).mono ?_
      rintro e w9 ⟨rfl, B9⟩
      have H9 := Lib.hid (HE.out.2.trans (B9.mono HE.out.2.size))
      clear B9
      simp only []
      go_wp2_with fail
      go_ret
      exact ⟨by rw [HT.out.1]; rfl, H9.out⟩
set_option maxHeartbeats 16000000 in
set_option maxRecDepth 100000 in
theorem sum_17 (p : Pk) (w : World) (hok : p.Ok) (hd : p.data.size ≤ 10000) (hps : pseudo p = true) (q6 : ¬ p.proto = 6) (q17 : p.proto = 17) : Calls Try.prog 33 #[p.val] w fun e w' => e = .returned (.int .u16 (sumP p)) ∧ Below w.heap.size w w' := by
  obtain ⟨⟨v1, h1, l1⟩, ⟨v2, h2, l2⟩, pr, tt, d⟩ := p
  obtain ⟨p, hp⟩ : ∃ p : Pk, p = ⟨⟨v1, h1, l1⟩, ⟨v2, h2, l2⟩, pr, tt, d⟩ := ⟨_, rfl⟩
  have HP := Lib.hid hp
  have HOK := Lib.hid (show (⟨v1, h1, l1⟩ : Ad).Ok ∧ (⟨v2, h2, l2⟩ : Ad).Ok ∧ pr < 256 from ⟨hok.1, hok.2.1, hok.2.2.1⟩)
  have hds : d.size ≤ 10000 := hd
  have HPS := Lib.hid (show pseudo p = true by rw [hp]; exact hps)
  rw [← hp]
  rw [show p.val = .agg #[.bool v1, .int .u64 h1, .int .u64 l1, .bool v2, .int .u64 h2, .int .u64 l2, .int .u8 pr, .int .u8 tt, .string d] by rw [hp]; rfl]
  clear hok hp hps
  obtain ⟨u1, u2⟩ := u16N d.size hds
  have HZ := Lib.hid (show d.size < 65536 ∧ d.size < 18446744073709551616 by omega)
  have hz : (d.size : Int) ≤ 10000 := by omega
  have HW0 := (heap_alloc_last w (.cells #[.bool v1, .int .u64 h1, .int .u64 l1, .bool v2, .int .u64 h2, .int .u64 l2, .int .u8 pr, .int .u8 tt, .string d] 30))
  have HB0 := (Below.refl w.heap.size w).alloc (Nat.le_refl _) (.cells #[.bool v1, .int .u64 h1, .int .u64 l1, .bool v2, .int .u64 h2, .int .u64 l2, .int .u8 pr, .int .u8 tt, .string d] 30)
  obtain ⟨X1, hX1⟩ : ∃ X, X = adS ⟨v1, h1, l1⟩ := ⟨_, rfl⟩
  obtain ⟨X2, hX2⟩ : ∃ X, X = adS ⟨v2, h2, l2⟩ := ⟨_, rfl⟩
  obtain ⟨C, hC⟩ : ∃ X : ByteArray, X = ⟨#[0, UInt8.ofNat pr]⟩ := ⟨_, rfl⟩
  obtain ⟨D, hD⟩ : ∃ X, X = beS d.size 2 := ⟨_, rfl⟩
  have z1 : X1.size ≤ 16 := by rw [hX1]; exact adS_size _
  have z2 : X2.size ≤ 16 := by rw [hX2]; exact adS_size _
  have z3 : C.size = 2 := by rw [hC]; rfl
  have z4 : D.size = 2 := by rw [hD]; exact beS_size _ _
  have a1 := addS X1 X2 (by omega)
  have a2 := addS (X1 ++ X2) C (by rw [ByteArray.size_append, z3]; omega)
  have a3 := addS (X1 ++ X2 ++ C) D (by rw [ByteArray.size_append, ByteArray.size_append, z3, z4]; omega)
  have htot : X1 ++ X2 ++ C ++ D = aheadS p := by
    rw [ahead_yes HPS.out, HP.out, hX1, hX2, hC, hD]

  have hsz : (aheadS p ++ p.data).size ≤ 20000 := by
    rw [ByteArray.size_append, ahead_yes HPS.out, HP.out]
    simp only [ByteArray.size_append]
    rw [← hX1, ← hX2, ← hD, z4]
    show X1.size + X2.size + 2 + 2 + d.size ≤ 20000
    omega
  have HX := Lib.hid (And.intro hX1 (And.intro hX2 (And.intro hC hD)))
  clear hX1 hX2 hC hD
  obtain ⟨T, hT⟩ : ∃ T, T = aheadS p ++ d := ⟨_, rfl⟩
  have HT := Lib.hid (show T = aheadS p ++ p.data ∧ T = aheadS p ++ d ∧ (aheadS p ++ p.data).size ≤ 20000 from ⟨by rw [hT, HP.out], hT, hsz⟩)
  have a4 := addS (X1 ++ X2 ++ C ++ D) d (by rw [htot]; have := hsz; rw [ByteArray.size_append, HP.out] at this; rw [HP.out]; show _ + d.size ≤ _; have h2 : (⟨⟨v1, h1, l1⟩, ⟨v2, h2, l2⟩, pr, tt, d⟩ : Pk).data.size = d.size := rfl; omega)
  rw [htot, ← hT] at a4
  rw [htot] at a3
  have HTOT := Lib.hid htot
  clear htot
  clear hsz hT z1 z2 z3 z4
  have b6 : ((pr : Int) == 6) = false := byNe (b := 6) q6
  have b17 : ((pr : Int) == 17) = true := byEq (b := 17) q17
  clear q6 q17
  go_enter Try.func33, Try.ntmps33
  go_upto_region 6 with (fail)
  obtain ⟨w0, hw0⟩ : ∃ uu, uu = w.alloc (.cells #[.bool v1, .int .u64 h1, .int .u64 l1, .bool v2, .int .u64 h2, .int .u64 l2, .int .u8 pr, .int .u8 tt, .string d] 30) := ⟨_, rfl⟩
  rw [← hw0] at HW0 HB0
  rw [← hw0]
  have HW := Lib.hid (And.intro HW0 HB0)
  clear HW0 HB0 hw0
  refine wp_region_held_drew (S := fun u => u.heap[w.heap.size]? = some (.cells #[.bool v1, .int .u64 h1, .int .u64 l1, .bool v2, .int .u64 h2, .int .u64 l2, .int .u8 pr, .int .u8 tt, .string d] 30) ∧ Below w.heap.size w u) (by kernel_rfl) ⟨HW.out.1, HW.out.2.drew⟩ (fun hHeld => ?_)
  refine wpAnyH_take (i := 0) (v := ?_) rfl (by kernel_rfl) (by kernel_rfl) (by kernel_rfl) (fun _ _ _ h => h) (Or.inl ⟨by rfl, ?_⟩) (by assumption) ?_
  rotate_left 1
  · (intro u hSw; clear hSw; go_simp; try (with_reducible rfl))
  try simp only [Act.put, List.setIfInBounds_toArray, List.set_cons_zero, List.set_cons_succ]
  refine wpAnyH_take (i := 1) (v := ?_) rfl (by kernel_rfl) (by kernel_rfl) (by kernel_rfl) (fun _ _ _ h => h) (Or.inl ⟨by rfl, ?_⟩) (by assumption) ?_
  rotate_left 1
  · (intro u hSw; obtain ⟨k0, k1, k2, k3, k4, k5, k6, k7, k8⟩ := pkCells hSw.1; clear hSw; go_simp; try (with_reducible rfl))
  try simp only [Act.put, List.setIfInBounds_toArray, List.set_cons_zero, List.set_cons_succ]
  refine wpAnyH_take (i := 3) (v := ?_) rfl (by kernel_rfl) (by kernel_rfl) (by kernel_rfl) (fun _ _ _ h => h) (Or.inl ⟨by rfl, ?_⟩) (by assumption) ?_
  rotate_left 1
  · (intro u hSw; clear hSw; go_simp; try (with_reducible rfl))
  try simp only [Act.put, List.setIfInBounds_toArray, List.set_cons_zero, List.set_cons_succ]
  refine wpAnyH_take (i := 4) (v := ?_) rfl (by kernel_rfl) (by kernel_rfl) (by kernel_rfl) (fun _ _ _ h => h) (Or.inl ⟨by rfl, ?_⟩) (by assumption) ?_
  rotate_left 1
  · (intro u hSw; obtain ⟨k0, k1, k2, k3, k4, k5, k6, k7, k8⟩ := pkCells hSw.1; clear hSw; go_simp; try (with_reducible rfl))
  try simp only [Act.put, List.setIfInBounds_toArray, List.set_cons_zero, List.set_cons_succ]
  refine wpAnyH_take (i := 7) (v := ?_) rfl (by kernel_rfl) (by kernel_rfl) (by kernel_rfl) (fun _ _ _ h => h) (Or.inl ⟨by rfl, ?_⟩) (by assumption) ?_
  rotate_left 1
  · (intro u hSw; clear hSw; go_simp; try (with_reducible rfl))
  try simp only [Act.put, List.setIfInBounds_toArray, List.set_cons_zero, List.set_cons_succ]
  refine wpAnyH_take (i := 8) (v := ?_) rfl (by kernel_rfl) (by kernel_rfl) (by kernel_rfl) (fun _ _ _ h => h) (Or.inl ⟨by rfl, ?_⟩) (by assumption) ?_
  rotate_left 1
  · (intro u hSw; obtain ⟨k0, k1, k2, k3, k4, k5, k6, k7, k8⟩ := pkCells hSw.1; clear hSw; go_simp; try (with_reducible rfl))
  try simp only [Act.put, List.setIfInBounds_toArray, List.set_cons_zero, List.set_cons_succ]
  refine wpAnyH_take (i := 12) (v := ?_) rfl (by kernel_rfl) (by kernel_rfl) (by kernel_rfl) (fun _ _ _ h => h) (Or.inl ⟨by rfl, ?_⟩) (by assumption) ?_
  rotate_left 1
  · (intro u hSw; clear hSw; go_simp; try (with_reducible rfl))
  try simp only [Act.put, List.setIfInBounds_toArray, List.set_cons_zero, List.set_cons_succ]
  refine wpAnyH_take (i := 13) (v := ?_) rfl (by kernel_rfl) (by kernel_rfl) (by kernel_rfl) (fun _ _ _ h => h) (Or.inl ⟨by rfl, ?_⟩) (by assumption) ?_
  rotate_left 1
  · (intro u hSw; obtain ⟨k0, k1, k2, k3, k4, k5, k6, k7, k8⟩ := pkCells hSw.1; clear hSw; go_simp; try (with_reducible rfl))
  try simp only [Act.put, List.setIfInBounds_toArray, List.set_cons_zero, List.set_cons_succ]
  refine wpAnyH_take (i := 14) (v := ?_) rfl (by kernel_rfl) (by kernel_rfl) (by kernel_rfl) (fun _ _ _ h => h) (Or.inl ⟨by rfl, ?_⟩) (by assumption) ?_
  rotate_left 1
  · (intro u hSw; clear hSw; go_simp; try (with_reducible rfl))
  try simp only [Act.put, List.setIfInBounds_toArray, List.set_cons_zero, List.set_cons_succ]
  refine wpAnyH_take (i := 15) (v := ?_) rfl (by kernel_rfl) (by kernel_rfl) (by kernel_rfl) (fun _ _ _ h => h) (Or.inl ⟨by rfl, ?_⟩) (by assumption) ?_
  rotate_left 1
  · (intro u hSw; clear hSw; go_simp; try (with_reducible rfl))
  try simp only [Act.put, List.setIfInBounds_toArray, List.set_cons_zero, List.set_cons_succ]
  refine wpAnyH_ready (rs := [2, 9]) (by kernel_rfl) (by simp) ?_
  refine AllReadyH.cons (i := 2) (o := ?o1) ?ho1 (fun K hK => ?st1) ?mo1
  case ho1 => rfl
  case st1 =>
    have HS := Lib.hid hHeld
    clear hHeld
    go_simp
    refine (addr_any ⟨v1, h1, l1⟩ _ HOK.out.1).mono ?_
    rintro e w1 ⟨rfl, B1⟩
    rw [← HX.out.1]
    simp only []
    refine hK.out _ _ ⟨(B1.block _ (lt_of_heap HS.out.1)).trans HS.out.1, HS.out.2.trans (B1.mono HS.out.2.size)⟩ (fun hHeld => ?_)
    clear hK K HS B1
    try simp only [Act.put, List.setIfInBounds_toArray, List.set_cons_zero, List.set_cons_succ]
    refine wpAnyH_ready (rs := [5, 9]) (by kernel_rfl) (by simp) ?_
    refine AllReadyH.cons (i := 5) (o := ?o2) ?ho2 (fun K hK => ?st2) ?mo2
    case ho2 => rfl
    case st2 =>
      have HS := Lib.hid hHeld
      clear hHeld
      go_simp
      refine (addr_any ⟨v2, h2, l2⟩ _ HOK.out.2.1).mono ?_
      rintro e w1 ⟨rfl, B1⟩
      rw [← HX.out.2.1]
      simp only []
      refine hK.out _ _ ⟨(B1.block _ (lt_of_heap HS.out.1)).trans HS.out.1, HS.out.2.trans (B1.mono HS.out.2.size)⟩ (fun hHeld => ?_)
      clear hK K HS B1
      try simp only [Act.put, List.setIfInBounds_toArray, List.set_cons_zero, List.set_cons_succ]
      refine wpAnyH_take (i := 6) (v := ?_) rfl (by kernel_rfl) (by kernel_rfl) (by kernel_rfl) (fun _ _ _ h => h) (Or.inl ⟨by rfl, ?_⟩) (by assumption) ?_
      rotate_left 1
      · (intro u hSw; clear hSw; go_simp; try (with_reducible rfl))
      try simp only [Act.put, List.setIfInBounds_toArray, List.set_cons_zero, List.set_cons_succ]
      refine wpAnyH_ready (rs := [9, 16]) (by kernel_rfl) (by simp) ?_
      refine AllReadyH.cons (i := 9) (o := ?o3) ?ho3 (fun K hK => ?st3) ?mo3
      case ho3 => rfl
      case st3 =>
        have HS := Lib.hid hHeld
        clear hHeld
        go_simp
        refine hK.out _ _ ⟨(heap_keep _ _ (lt_of_heap HS.out.1)).trans HS.out.1, HS.out.2.alloc HS.out.2.size _⟩ (fun hHeld => ?_)
        have G : (w1.alloc (.cells #[.int .u8 0, .int .u8 (pr : Int)] 5)).heap[w1.heap.size]? = some (.cells #[.int .u8 0, .int .u8 (pr : Int)] 5) := heap_alloc_last w1 _
        clear hK K HS
        obtain ⟨g, hgg⟩ : ∃ g, g = w1.heap.size := ⟨_, rfl⟩
        rw [← hgg] at G
        rw [← hgg]
        have G := Lib.hid G
        clear hgg
        try simp only [Act.put, List.setIfInBounds_toArray, List.set_cons_zero, List.set_cons_succ]
        refine wpAnyH_ready (rs := [10, 16]) (by kernel_rfl) (by simp) ?_
        refine AllReadyH.cons (i := 10) (o := ?o4) ?ho4 (fun K hK => ?st4) ?mo4
        case ho4 => rfl
        case st4 =>
          have HS := Lib.hid hHeld
          clear hHeld
          have hcv := two_conv HOK.out.2.2 G.out
          rw [← HX.out.2.2.1] at hcv
          go_simp
          refine hK.out _ _ HS.out (fun hHeld => ?_)
          clear hK K HS hcv G
          try simp only [Act.put, List.setIfInBounds_toArray, List.set_cons_zero, List.set_cons_succ]
          refine wpAnyH_take (i := 11) (v := ?_) rfl (by kernel_rfl) (by kernel_rfl) (by kernel_rfl) (fun _ _ _ h => h) (Or.inl ⟨by rfl, ?_⟩) (by assumption) ?_
          rotate_left 1
          · (intro u hSw; clear hSw; go_simp; try (with_reducible rfl))
          try simp only [Act.put, List.setIfInBounds_toArray, List.set_cons_zero, List.set_cons_succ]
          refine wpAnyH_ready (rs := [16]) (by kernel_rfl) (by simp) ?_
          refine AllReadyH.cons rfl (fun K hK => ?_) AllReadyH.nil
          have HS := Lib.hid hHeld
          clear hHeld
          go_simp
          refine (put16 d.size _ HZ.out.1).mono ?_
          rintro e w1 ⟨rfl, B1⟩
          rw [← HX.out.2.2.2]
          simp only []
          refine hK.out _ _ ⟨(B1.block _ (lt_of_heap HS.out.1)).trans HS.out.1, HS.out.2.trans (B1.mono HS.out.2.size)⟩ (fun hHeld => ?_)
          clear hK K HS B1
          try simp only [Act.put, List.setIfInBounds_toArray, List.set_cons_zero, List.set_cons_succ]
          refine wpAnyH_take (i := 17) (v := ?_) rfl (by kernel_rfl) (by kernel_rfl) (by kernel_rfl) (fun _ _ _ h => h) (Or.inl ⟨by rfl, ?_⟩) (by assumption) ?_
          rotate_left 1
          · (intro u hSw; clear hSw; go_simp; try (with_reducible rfl))
          try simp only [Act.put, List.setIfInBounds_toArray, List.set_cons_zero, List.set_cons_succ]
          refine wpAnyH_ready (rs := [18]) (by kernel_rfl) (by simp) ?_
          refine AllReadyH.cons rfl (fun K hK => ?_) AllReadyH.nil
          have HS := Lib.hid hHeld
          clear hHeld
          go_simp
          refine hK.out _ _ HS.out (fun hHeld => ?_)
          clear hK K HS
          try simp only [Act.put, List.setIfInBounds_toArray, List.set_cons_zero, List.set_cons_succ]
          have HE := Lib.hid hHeld
          clear hHeld
          refine wpAnyH_done (by kernel_rfl) ?_ _
          try simp only [Act.put, List.setIfInBounds_toArray, List.set_cons_zero, List.set_cons_succ]
          obtain ⟨k0, k1, k2, k3, k4, k5, k6, k7, k8⟩ := pkCells HE.out.1
          clear k0 k1 k2 k3 k4 k5 k6 k7
          go_wp2_with fail
          refine (ipSum_any _ _ (by rw [HT.out.1]; exact HT.out.2.2)).mono ?_
          rintro e w9 ⟨rfl, B9⟩
          have H9 := Lib.hid (HE.out.2.trans (B9.mono HE.out.2.size))
          clear B9
          simp only []
          go_wp2_with fail
          go_ret
          exact ⟨by rw [HT.out.1]; rfl, H9.out⟩
        case mo4 =>
          refine AllReadyH.cons rfl (fun K hK => ?_) AllReadyH.nil
          have HS := Lib.hid hHeld
          clear hHeld
          go_simp
          refine (put16 d.size _ HZ.out.1).mono ?_
          rintro e w1 ⟨rfl, B1⟩
          rw [← HX.out.2.2.2]
          simp only []
          refine hK.out _ _ ⟨(B1.block _ (lt_of_heap HS.out.1)).trans HS.out.1, HS.out.2.trans (B1.mono HS.out.2.size)⟩ (fun hHeld => ?_)
          have G := Lib.hid ((B1.block _ (lt_of_heap G.out)).trans G.out)
          clear hK K HS B1
          try simp only [Act.put, List.setIfInBounds_toArray, List.set_cons_zero, List.set_cons_succ]
          refine wpAnyH_ready (rs := [10]) (by kernel_rfl) (by simp) ?_
          refine AllReadyH.cons rfl (fun K hK => ?_) AllReadyH.nil
          have HS := Lib.hid hHeld
          clear hHeld
          have hcv := two_conv HOK.out.2.2 G.out
          rw [← HX.out.2.2.1] at hcv
          go_simp
          refine hK.out _ _ HS.out (fun hHeld => ?_)
          clear hK K HS hcv G
          try simp only [Act.put, List.setIfInBounds_toArray, List.set_cons_zero, List.set_cons_succ]
          refine wpAnyH_take (i := 11) (v := ?_) rfl (by kernel_rfl) (by kernel_rfl) (by kernel_rfl) (fun _ _ _ h => h) (Or.inl ⟨by rfl, ?_⟩) (by assumption) ?_
          rotate_left 1
          · (intro u hSw; clear hSw; go_simp; try (with_reducible rfl))
          try simp only [Act.put, List.setIfInBounds_toArray, List.set_cons_zero, List.set_cons_succ]
          refine wpAnyH_take (i := 17) (v := ?_) rfl (by kernel_rfl) (by kernel_rfl) (by kernel_rfl) (fun _ _ _ h => h) (Or.inl ⟨by rfl, ?_⟩) (by assumption) ?_
          rotate_left 1
          · (intro u hSw; clear hSw; go_simp; try (with_reducible rfl))
          try simp only [Act.put, List.setIfInBounds_toArray, List.set_cons_zero, List.set_cons_succ]
          refine wpAnyH_ready (rs := [18]) (by kernel_rfl) (by simp) ?_
          refine AllReadyH.cons rfl (fun K hK => ?_) AllReadyH.nil
          have HS := Lib.hid hHeld
          clear hHeld
          go_simp
          refine hK.out _ _ HS.out (fun hHeld => ?_)
          clear hK K HS
          try simp only [Act.put, List.setIfInBounds_toArray, List.set_cons_zero, List.set_cons_succ]
          have HE := Lib.hid hHeld
          clear hHeld
          refine wpAnyH_done (by kernel_rfl) ?_ _
          try simp only [Act.put, List.setIfInBounds_toArray, List.set_cons_zero, List.set_cons_succ]
          obtain ⟨k0, k1, k2, k3, k4, k5, k6, k7, k8⟩ := pkCells HE.out.1
          clear k0 k1 k2 k3 k4 k5 k6 k7
          go_wp2_with fail
          refine (ipSum_any _ _ (by rw [HT.out.1]; exact HT.out.2.2)).mono ?_
          rintro e w9 ⟨rfl, B9⟩
          have H9 := Lib.hid (HE.out.2.trans (B9.mono HE.out.2.size))
          clear B9
          simp only []
          go_wp2_with fail
          go_ret
          exact ⟨by rw [HT.out.1]; rfl, H9.out⟩
      case mo3 =>
        refine AllReadyH.cons rfl (fun K hK => ?_) AllReadyH.nil
        have HS := Lib.hid hHeld
        clear hHeld
        go_simp
        refine (put16 d.size _ HZ.out.1).mono ?_
        rintro e w1 ⟨rfl, B1⟩
        rw [← HX.out.2.2.2]
        simp only []
        refine hK.out _ _ ⟨(B1.block _ (lt_of_heap HS.out.1)).trans HS.out.1, HS.out.2.trans (B1.mono HS.out.2.size)⟩ (fun hHeld => ?_)
        clear hK K HS B1
        try simp only [Act.put, List.setIfInBounds_toArray, List.set_cons_zero, List.set_cons_succ]
        refine wpAnyH_ready (rs := [9]) (by kernel_rfl) (by simp) ?_
        refine AllReadyH.cons rfl (fun K hK => ?_) AllReadyH.nil
        have HS := Lib.hid hHeld
        clear hHeld
        go_simp
        refine hK.out _ _ ⟨(heap_keep _ _ (lt_of_heap HS.out.1)).trans HS.out.1, HS.out.2.alloc HS.out.2.size _⟩ (fun hHeld => ?_)
        have G : (w1.alloc (.cells #[.int .u8 0, .int .u8 (pr : Int)] 5)).heap[w1.heap.size]? = some (.cells #[.int .u8 0, .int .u8 (pr : Int)] 5) := heap_alloc_last w1 _
        clear hK K HS
        obtain ⟨g, hgg⟩ : ∃ g, g = w1.heap.size := ⟨_, rfl⟩
        rw [← hgg] at G
        rw [← hgg]
        have G := Lib.hid G
        clear hgg
        try simp only [Act.put, List.setIfInBounds_toArray, List.set_cons_zero, List.set_cons_succ]
        refine wpAnyH_ready (rs := [10]) (by kernel_rfl) (by simp) ?_
        refine AllReadyH.cons rfl (fun K hK => ?_) AllReadyH.nil
        have HS := Lib.hid hHeld
        clear hHeld
        have hcv := two_conv HOK.out.2.2 G.out
        rw [← HX.out.2.2.1] at hcv
        go_simp
        refine hK.out _ _ HS.out (fun hHeld => ?_)
        clear hK K HS hcv G
        try simp only [Act.put, List.setIfInBounds_toArray, List.set_cons_zero, List.set_cons_succ]
        refine wpAnyH_take (i := 11) (v := ?_) rfl (by kernel_rfl) (by kernel_rfl) (by kernel_rfl) (fun _ _ _ h => h) (Or.inl ⟨by rfl, ?_⟩) (by assumption) ?_
        rotate_left 1
        · (intro u hSw; clear hSw; go_simp; try (with_reducible rfl))
        try simp only [Act.put, List.setIfInBounds_toArray, List.set_cons_zero, List.set_cons_succ]
        refine wpAnyH_take (i := 17) (v := ?_) rfl (by kernel_rfl) (by kernel_rfl) (by kernel_rfl) (fun _ _ _ h => h) (Or.inl ⟨by rfl, ?_⟩) (by assumption) ?_
        rotate_left 1
        · (intro u hSw; clear hSw; go_simp; try (with_reducible rfl))
        try simp only [Act.put, List.setIfInBounds_toArray, List.set_cons_zero, List.set_cons_succ]
        refine wpAnyH_ready (rs := [18]) (by kernel_rfl) (by simp) ?_
        refine AllReadyH.cons rfl (fun K hK => ?_) AllReadyH.nil
        have HS := Lib.hid hHeld
        clear hHeld
        go_simp
        refine hK.out _ _ HS.out (fun hHeld => ?_)
        clear hK K HS
        try simp only [Act.put, List.setIfInBounds_toArray, List.set_cons_zero, List.set_cons_succ]
        have HE := Lib.hid hHeld
        clear hHeld
        refine wpAnyH_done (by kernel_rfl) ?_ _
        try simp only [Act.put, List.setIfInBounds_toArray, List.set_cons_zero, List.set_cons_succ]
        obtain ⟨k0, k1, k2, k3, k4, k5, k6, k7, k8⟩ := pkCells HE.out.1
        clear k0 k1 k2 k3 k4 k5 k6 k7
        go_wp2_with fail
        refine (ipSum_any _ _ (by rw [HT.out.1]; exact HT.out.2.2)).mono ?_
        rintro e w9 ⟨rfl, B9⟩
        have H9 := Lib.hid (HE.out.2.trans (B9.mono HE.out.2.size))
        clear B9
        simp only []
        go_wp2_with fail
        go_ret
        exact ⟨by rw [HT.out.1]; rfl, H9.out⟩
    case mo2 =>
      refine AllReadyH.cons rfl (fun K hK => ?_) AllReadyH.nil
      have HS := Lib.hid hHeld
      clear hHeld
      go_simp
      refine hK.out _ _ ⟨(heap_keep _ _ (lt_of_heap HS.out.1)).trans HS.out.1, HS.out.2.alloc HS.out.2.size _⟩ (fun hHeld => ?_)
      have G : (w1.alloc (.cells #[.int .u8 0, .int .u8 (pr : Int)] 5)).heap[w1.heap.size]? = some (.cells #[.int .u8 0, .int .u8 (pr : Int)] 5) := heap_alloc_last w1 _
      clear hK K HS
      obtain ⟨g, hgg⟩ : ∃ g, g = w1.heap.size := ⟨_, rfl⟩
      rw [← hgg] at G
      rw [← hgg]
      have G := Lib.hid G
      clear hgg
      try simp only [Act.put, List.setIfInBounds_toArray, List.set_cons_zero, List.set_cons_succ]
      refine wpAnyH_ready (rs := [5, 10]) (by kernel_rfl) (by simp) ?_
      refine AllReadyH.cons (i := 5) (o := ?o5) ?ho5 (fun K hK => ?st5) ?mo5
      case ho5 => rfl
      case st5 =>
        have HS := Lib.hid hHeld
        clear hHeld
        go_simp
        refine (addr_any ⟨v2, h2, l2⟩ _ HOK.out.2.1).mono ?_
        rintro e w1 ⟨rfl, B1⟩
        rw [← HX.out.2.1]
        simp only []
        refine hK.out _ _ ⟨(B1.block _ (lt_of_heap HS.out.1)).trans HS.out.1, HS.out.2.trans (B1.mono HS.out.2.size)⟩ (fun hHeld => ?_)
        have G := Lib.hid ((B1.block _ (lt_of_heap G.out)).trans G.out)
        clear hK K HS B1
        try simp only [Act.put, List.setIfInBounds_toArray, List.set_cons_zero, List.set_cons_succ]
        refine wpAnyH_take (i := 6) (v := ?_) rfl (by kernel_rfl) (by kernel_rfl) (by kernel_rfl) (fun _ _ _ h => h) (Or.inl ⟨by rfl, ?_⟩) (by assumption) ?_
        rotate_left 1
        · (intro u hSw; clear hSw; go_simp; try (with_reducible rfl))
        try simp only [Act.put, List.setIfInBounds_toArray, List.set_cons_zero, List.set_cons_succ]
        refine wpAnyH_ready (rs := [10, 16]) (by kernel_rfl) (by simp) ?_
        refine AllReadyH.cons (i := 10) (o := ?o6) ?ho6 (fun K hK => ?st6) ?mo6
        case ho6 => rfl
        case st6 =>
          have HS := Lib.hid hHeld
          clear hHeld
          have hcv := two_conv HOK.out.2.2 G.out
          rw [← HX.out.2.2.1] at hcv
          go_simp
          refine hK.out _ _ HS.out (fun hHeld => ?_)
          clear hK K HS hcv G
          try simp only [Act.put, List.setIfInBounds_toArray, List.set_cons_zero, List.set_cons_succ]
          refine wpAnyH_take (i := 11) (v := ?_) rfl (by kernel_rfl) (by kernel_rfl) (by kernel_rfl) (fun _ _ _ h => h) (Or.inl ⟨by rfl, ?_⟩) (by assumption) ?_
          rotate_left 1
          · (intro u hSw; clear hSw; go_simp; try (with_reducible rfl))
          try simp only [Act.put, List.setIfInBounds_toArray, List.set_cons_zero, List.set_cons_succ]
          refine wpAnyH_ready (rs := [16]) (by kernel_rfl) (by simp) ?_
          refine AllReadyH.cons rfl (fun K hK => ?_) AllReadyH.nil
          have HS := Lib.hid hHeld
          clear hHeld
          go_simp
          refine (put16 d.size _ HZ.out.1).mono ?_
          rintro e w1 ⟨rfl, B1⟩
          rw [← HX.out.2.2.2]
          simp only []
          refine hK.out _ _ ⟨(B1.block _ (lt_of_heap HS.out.1)).trans HS.out.1, HS.out.2.trans (B1.mono HS.out.2.size)⟩ (fun hHeld => ?_)
          clear hK K HS B1
          try simp only [Act.put, List.setIfInBounds_toArray, List.set_cons_zero, List.set_cons_succ]
          refine wpAnyH_take (i := 17) (v := ?_) rfl (by kernel_rfl) (by kernel_rfl) (by kernel_rfl) (fun _ _ _ h => h) (Or.inl ⟨by rfl, ?_⟩) (by assumption) ?_
          rotate_left 1
          · (intro u hSw; clear hSw; go_simp; try (with_reducible rfl))
          try simp only [Act.put, List.setIfInBounds_toArray, List.set_cons_zero, List.set_cons_succ]
          refine wpAnyH_ready (rs := [18]) (by kernel_rfl) (by simp) ?_
          refine AllReadyH.cons rfl (fun K hK => ?_) AllReadyH.nil
          have HS := Lib.hid hHeld
          clear hHeld
          go_simp
          refine hK.out _ _ HS.out (fun hHeld => ?_)
          clear hK K HS
          try simp only [Act.put, List.setIfInBounds_toArray, List.set_cons_zero, List.set_cons_succ]
          have HE := Lib.hid hHeld
          clear hHeld
          refine wpAnyH_done (by kernel_rfl) ?_ _
          try simp only [Act.put, List.setIfInBounds_toArray, List.set_cons_zero, List.set_cons_succ]
          obtain ⟨k0, k1, k2, k3, k4, k5, k6, k7, k8⟩ := pkCells HE.out.1
          clear k0 k1 k2 k3 k4 k5 k6 k7
          go_wp2_with fail
          refine (ipSum_any _ _ (by rw [HT.out.1]; exact HT.out.2.2)).mono ?_
          rintro e w9 ⟨rfl, B9⟩
          have H9 := Lib.hid (HE.out.2.trans (B9.mono HE.out.2.size))
          clear B9
          simp only []
          go_wp2_with fail
          go_ret
          exact ⟨by rw [HT.out.1]; rfl, H9.out⟩
        case mo6 =>
          refine AllReadyH.cons rfl (fun K hK => ?_) AllReadyH.nil
          have HS := Lib.hid hHeld
          clear hHeld
          go_simp
          refine (put16 d.size _ HZ.out.1).mono ?_
          rintro e w1 ⟨rfl, B1⟩
          rw [← HX.out.2.2.2]
          simp only []
          refine hK.out _ _ ⟨(B1.block _ (lt_of_heap HS.out.1)).trans HS.out.1, HS.out.2.trans (B1.mono HS.out.2.size)⟩ (fun hHeld => ?_)
          have G := Lib.hid ((B1.block _ (lt_of_heap G.out)).trans G.out)
          clear hK K HS B1
          try simp only [Act.put, List.setIfInBounds_toArray, List.set_cons_zero, List.set_cons_succ]
          refine wpAnyH_ready (rs := [10]) (by kernel_rfl) (by simp) ?_
          refine AllReadyH.cons rfl (fun K hK => ?_) AllReadyH.nil
          have HS := Lib.hid hHeld
          clear hHeld
          have hcv := two_conv HOK.out.2.2 G.out
          rw [← HX.out.2.2.1] at hcv
          go_simp
          refine hK.out _ _ HS.out (fun hHeld => ?_)
          clear hK K HS hcv G
          try simp only [Act.put, List.setIfInBounds_toArray, List.set_cons_zero, List.set_cons_succ]
          refine wpAnyH_take (i := 11) (v := ?_) rfl (by kernel_rfl) (by kernel_rfl) (by kernel_rfl) (fun _ _ _ h => h) (Or.inl ⟨by rfl, ?_⟩) (by assumption) ?_
          rotate_left 1
          · (intro u hSw; clear hSw; go_simp; try (with_reducible rfl))
          try simp only [Act.put, List.setIfInBounds_toArray, List.set_cons_zero, List.set_cons_succ]
          refine wpAnyH_take (i := 17) (v := ?_) rfl (by kernel_rfl) (by kernel_rfl) (by kernel_rfl) (fun _ _ _ h => h) (Or.inl ⟨by rfl, ?_⟩) (by assumption) ?_
          rotate_left 1
          · (intro u hSw; clear hSw; go_simp; try (with_reducible rfl))
          try simp only [Act.put, List.setIfInBounds_toArray, List.set_cons_zero, List.set_cons_succ]
          refine wpAnyH_ready (rs := [18]) (by kernel_rfl) (by simp) ?_
          refine AllReadyH.cons rfl (fun K hK => ?_) AllReadyH.nil
          have HS := Lib.hid hHeld
          clear hHeld
          go_simp
          refine hK.out _ _ HS.out (fun hHeld => ?_)
          clear hK K HS
          try simp only [Act.put, List.setIfInBounds_toArray, List.set_cons_zero, List.set_cons_succ]
          have HE := Lib.hid hHeld
          clear hHeld
          refine wpAnyH_done (by kernel_rfl) ?_ _
          try simp only [Act.put, List.setIfInBounds_toArray, List.set_cons_zero, List.set_cons_succ]
          obtain ⟨k0, k1, k2, k3, k4, k5, k6, k7, k8⟩ := pkCells HE.out.1
          clear k0 k1 k2 k3 k4 k5 k6 k7
          go_wp2_with fail
          refine (ipSum_any _ _ (by rw [HT.out.1]; exact HT.out.2.2)).mono ?_
          rintro e w9 ⟨rfl, B9⟩
          have H9 := Lib.hid (HE.out.2.trans (B9.mono HE.out.2.size))
          clear B9
          simp only []
          go_wp2_with fail
          go_ret
          exact ⟨by rw [HT.out.1]; rfl, H9.out⟩
      case mo5 =>
        refine AllReadyH.cons rfl (fun K hK => ?_) AllReadyH.nil
        have HS := Lib.hid hHeld
        clear hHeld
        have hcv := two_conv HOK.out.2.2 G.out
        rw [← HX.out.2.2.1] at hcv
        go_simp
        refine hK.out _ _ HS.out (fun hHeld => ?_)
        clear hK K HS hcv G
        try simp only [Act.put, List.setIfInBounds_toArray, List.set_cons_zero, List.set_cons_succ]
        refine wpAnyH_ready (rs := [5]) (by kernel_rfl) (by simp) ?_
        refine AllReadyH.cons rfl (fun K hK => ?_) AllReadyH.nil
        have HS := Lib.hid hHeld
        clear hHeld
        go_simp
        refine (addr_any ⟨v2, h2, l2⟩ _ HOK.out.2.1).mono ?_
        rintro e w1 ⟨rfl, B1⟩
        rw [← HX.out.2.1]
        simp only []
        refine hK.out _ _ ⟨(B1.block _ (lt_of_heap HS.out.1)).trans HS.out.1, HS.out.2.trans (B1.mono HS.out.2.size)⟩ (fun hHeld => ?_)
        clear hK K HS B1
        try simp only [Act.put, List.setIfInBounds_toArray, List.set_cons_zero, List.set_cons_succ]
        refine wpAnyH_take (i := 6) (v := ?_) rfl (by kernel_rfl) (by kernel_rfl) (by kernel_rfl) (fun _ _ _ h => h) (Or.inl ⟨by rfl, ?_⟩) (by assumption) ?_
        rotate_left 1
        · (intro u hSw; clear hSw; go_simp; try (with_reducible rfl))
        try simp only [Act.put, List.setIfInBounds_toArray, List.set_cons_zero, List.set_cons_succ]
        refine wpAnyH_take (i := 11) (v := ?_) rfl (by kernel_rfl) (by kernel_rfl) (by kernel_rfl) (fun _ _ _ h => h) (Or.inl ⟨by rfl, ?_⟩) (by assumption) ?_
        rotate_left 1
        · (intro u hSw; clear hSw; go_simp; try (with_reducible rfl))
        try simp only [Act.put, List.setIfInBounds_toArray, List.set_cons_zero, List.set_cons_succ]
        refine wpAnyH_ready (rs := [16]) (by kernel_rfl) (by simp) ?_
        refine AllReadyH.cons rfl (fun K hK => ?_) AllReadyH.nil
        have HS := Lib.hid hHeld
        clear hHeld
        go_simp
        refine (put16 d.size _ HZ.out.1).mono ?_
        rintro e w1 ⟨rfl, B1⟩
        rw [← HX.out.2.2.2]
        simp only []
        refine hK.out _ _ ⟨(B1.block _ (lt_of_heap HS.out.1)).trans HS.out.1, HS.out.2.trans (B1.mono HS.out.2.size)⟩ (fun hHeld => ?_)
        clear hK K HS B1
        try simp only [Act.put, List.setIfInBounds_toArray, List.set_cons_zero, List.set_cons_succ]
        refine wpAnyH_take (i := 17) (v := ?_) rfl (by kernel_rfl) (by kernel_rfl) (by kernel_rfl) (fun _ _ _ h => h) (Or.inl ⟨by rfl, ?_⟩) (by assumption) ?_
        rotate_left 1
        · (intro u hSw; clear hSw; go_simp; try (with_reducible rfl))
        try simp only [Act.put, List.setIfInBounds_toArray, List.set_cons_zero, List.set_cons_succ]
        refine wpAnyH_ready (rs := [18]) (by kernel_rfl) (by simp) ?_
        refine AllReadyH.cons rfl (fun K hK => ?_) AllReadyH.nil
        have HS := Lib.hid hHeld
        clear hHeld
        go_simp
        refine hK.out _ _ HS.out (fun hHeld => ?_)
        clear hK K HS
        try simp only [Act.put, List.setIfInBounds_toArray, List.set_cons_zero, List.set_cons_succ]
        have HE := Lib.hid hHeld
        clear hHeld
        refine wpAnyH_done (by kernel_rfl) ?_ _
        try simp only [Act.put, List.setIfInBounds_toArray, List.set_cons_zero, List.set_cons_succ]
        obtain ⟨k0, k1, k2, k3, k4, k5, k6, k7, k8⟩ := pkCells HE.out.1
        clear k0 k1 k2 k3 k4 k5 k6 k7
        go_wp2_with fail
        refine (ipSum_any _ _ (by rw [HT.out.1]; exact HT.out.2.2)).mono ?_
        rintro e w9 ⟨rfl, B9⟩
        have H9 := Lib.hid (HE.out.2.trans (B9.mono HE.out.2.size))
        clear B9
        simp only []
        go_wp2_with fail
        go_ret
        exact ⟨by rw [HT.out.1]; rfl, H9.out⟩
  case mo1 =>
    refine AllReadyH.cons rfl (fun K hK => ?_) AllReadyH.nil
    have HS := Lib.hid hHeld
    clear hHeld
    go_simp
    refine hK.out _ _ ⟨(heap_keep _ _ (lt_of_heap HS.out.1)).trans HS.out.1, HS.out.2.alloc HS.out.2.size _⟩ (fun hHeld => ?_)
    have G : (w0.alloc (.cells #[.int .u8 0, .int .u8 (pr : Int)] 5)).drew.heap[w0.heap.size]? = some (.cells #[.int .u8 0, .int .u8 (pr : Int)] 5) := heap_alloc_last w0 _
    clear hK K HS
    obtain ⟨g, hgg⟩ : ∃ g, g = w0.heap.size := ⟨_, rfl⟩
    rw [← hgg] at G
    rw [← hgg]
    have G := Lib.hid G
    clear hgg
    try simp only [Act.put, List.setIfInBounds_toArray, List.set_cons_zero, List.set_cons_succ]
    refine wpAnyH_ready (rs := [2, 10]) (by kernel_rfl) (by simp) ?_
    refine AllReadyH.cons (i := 2) (o := ?o7) ?ho7 (fun K hK => ?st7) ?mo7
    case ho7 => rfl
    case st7 =>
      have HS := Lib.hid hHeld
      clear hHeld
      go_simp
      refine (addr_any ⟨v1, h1, l1⟩ _ HOK.out.1).mono ?_
      rintro e w1 ⟨rfl, B1⟩
      rw [← HX.out.1]
      simp only []
      refine hK.out _ _ ⟨(B1.block _ (lt_of_heap HS.out.1)).trans HS.out.1, HS.out.2.trans (B1.mono HS.out.2.size)⟩ (fun hHeld => ?_)
      have G := Lib.hid ((B1.block _ (lt_of_heap G.out)).trans G.out)
      clear hK K HS B1
      try simp only [Act.put, List.setIfInBounds_toArray, List.set_cons_zero, List.set_cons_succ]
      refine wpAnyH_ready (rs := [5, 10]) (by kernel_rfl) (by simp) ?_
      refine AllReadyH.cons (i := 5) (o := ?o8) ?ho8 (fun K hK => ?st8) ?mo8
      case ho8 => rfl
      case st8 =>
        have HS := Lib.hid hHeld
        clear hHeld
        go_simp
        refine (addr_any ⟨v2, h2, l2⟩ _ HOK.out.2.1).mono ?_
        rintro e w1 ⟨rfl, B1⟩
        rw [← HX.out.2.1]
        simp only []
        refine hK.out _ _ ⟨(B1.block _ (lt_of_heap HS.out.1)).trans HS.out.1, HS.out.2.trans (B1.mono HS.out.2.size)⟩ (fun hHeld => ?_)
        have G := Lib.hid ((B1.block _ (lt_of_heap G.out)).trans G.out)
        clear hK K HS B1
        try simp only [Act.put, List.setIfInBounds_toArray, List.set_cons_zero, List.set_cons_succ]
        refine wpAnyH_take (i := 6) (v := ?_) rfl (by kernel_rfl) (by kernel_rfl) (by kernel_rfl) (fun _ _ _ h => h) (Or.inl ⟨by rfl, ?_⟩) (by assumption) ?_
        rotate_left 1
        · (intro u hSw; clear hSw; go_simp; try (with_reducible rfl))
        try simp only [Act.put, List.setIfInBounds_toArray, List.set_cons_zero, List.set_cons_succ]
        refine wpAnyH_ready (rs := [10, 16]) (by kernel_rfl) (by simp) ?_
        refine AllReadyH.cons (i := 10) (o := ?o9) ?ho9 (fun K hK => ?st9) ?mo9
        case ho9 => rfl
        case st9 =>
          have HS := Lib.hid hHeld
          clear hHeld
          have hcv := two_conv HOK.out.2.2 G.out
          rw [← HX.out.2.2.1] at hcv
          go_simp
          refine hK.out _ _ HS.out (fun hHeld => ?_)
          clear hK K HS hcv G
          try simp only [Act.put, List.setIfInBounds_toArray, List.set_cons_zero, List.set_cons_succ]
          refine wpAnyH_take (i := 11) (v := ?_) rfl (by kernel_rfl) (by kernel_rfl) (by kernel_rfl) (fun _ _ _ h => h) (Or.inl ⟨by rfl, ?_⟩) (by assumption) ?_
          rotate_left 1
          · (intro u hSw; clear hSw; go_simp; try (with_reducible rfl))
          try simp only [Act.put, List.setIfInBounds_toArray, List.set_cons_zero, List.set_cons_succ]
          refine wpAnyH_ready (rs := [16]) (by kernel_rfl) (by simp) ?_
          refine AllReadyH.cons rfl (fun K hK => ?_) AllReadyH.nil
          have HS := Lib.hid hHeld
          clear hHeld
          go_simp
          refine (put16 d.size _ HZ.out.1).mono ?_
          rintro e w1 ⟨rfl, B1⟩
          rw [← HX.out.2.2.2]
          simp only []
          refine hK.out _ _ ⟨(B1.block _ (lt_of_heap HS.out.1)).trans HS.out.1, HS.out.2.trans (B1.mono HS.out.2.size)⟩ (fun hHeld => ?_)
          clear hK K HS B1
          try simp only [Act.put, List.setIfInBounds_toArray, List.set_cons_zero, List.set_cons_succ]
          refine wpAnyH_take (i := 17) (v := ?_) rfl (by kernel_rfl) (by kernel_rfl) (by kernel_rfl) (fun _ _ _ h => h) (Or.inl ⟨by rfl, ?_⟩) (by assumption) ?_
          rotate_left 1
          · (intro u hSw; clear hSw; go_simp; try (with_reducible rfl))
          try simp only [Act.put, List.setIfInBounds_toArray, List.set_cons_zero, List.set_cons_succ]
          refine wpAnyH_ready (rs := [18]) (by kernel_rfl) (by simp) ?_
          refine AllReadyH.cons rfl (fun K hK => ?_) AllReadyH.nil
          have HS := Lib.hid hHeld
          clear hHeld
          go_simp
          refine hK.out _ _ HS.out (fun hHeld => ?_)
          clear hK K HS
          try simp only [Act.put, List.setIfInBounds_toArray, List.set_cons_zero, List.set_cons_succ]
          have HE := Lib.hid hHeld
          clear hHeld
          refine wpAnyH_done (by kernel_rfl) ?_ _
          try simp only [Act.put, List.setIfInBounds_toArray, List.set_cons_zero, List.set_cons_succ]
          obtain ⟨k0, k1, k2, k3, k4, k5, k6, k7, k8⟩ := pkCells HE.out.1
          clear k0 k1 k2 k3 k4 k5 k6 k7
          go_wp2_with fail
          refine (ipSum_any _ _ (by rw [HT.out.1]; exact HT.out.2.2)).mono ?_
          rintro e w9 ⟨rfl, B9⟩
          have H9 := Lib.hid (HE.out.2.trans (B9.mono HE.out.2.size))
          clear B9
          simp only []
          go_wp2_with fail
          go_ret
          exact ⟨by rw [HT.out.1]; rfl, H9.out⟩
        case mo9 =>
          refine AllReadyH.cons rfl (fun K hK => ?_) AllReadyH.nil
          have HS := Lib.hid hHeld
          clear hHeld
          go_simp
          refine (put16 d.size _ HZ.out.1).mono ?_
          rintro e w1 ⟨rfl, B1⟩
          rw [← HX.out.2.2.2]
          simp only []
          refine hK.out _ _ ⟨(B1.block _ (lt_of_heap HS.out.1)).trans HS.out.1, HS.out.2.trans (B1.mono HS.out.2.size)⟩ (fun hHeld => ?_)
          have G := Lib.hid ((B1.block _ (lt_of_heap G.out)).trans G.out)
          clear hK K HS B1
          try simp only [Act.put, List.setIfInBounds_toArray, List.set_cons_zero, List.set_cons_succ]
          refine wpAnyH_ready (rs := [10]) (by kernel_rfl) (by simp) ?_
          refine AllReadyH.cons rfl (fun K hK => ?_) AllReadyH.nil
          have HS := Lib.hid hHeld
          clear hHeld
          have hcv := two_conv HOK.out.2.2 G.out
          rw [← HX.out.2.2.1] at hcv
          go_simp
          refine hK.out _ _ HS.out (fun hHeld => ?_)
          clear hK K HS hcv G
          try simp only [Act.put, List.setIfInBounds_toArray, List.set_cons_zero, List.set_cons_succ]
          refine wpAnyH_take (i := 11) (v := ?_) rfl (by kernel_rfl) (by kernel_rfl) (by kernel_rfl) (fun _ _ _ h => h) (Or.inl ⟨by rfl, ?_⟩) (by assumption) ?_
          rotate_left 1
          · (intro u hSw; clear hSw; go_simp; try (with_reducible rfl))
          try simp only [Act.put, List.setIfInBounds_toArray, List.set_cons_zero, List.set_cons_succ]
          refine wpAnyH_take (i := 17) (v := ?_) rfl (by kernel_rfl) (by kernel_rfl) (by kernel_rfl) (fun _ _ _ h => h) (Or.inl ⟨by rfl, ?_⟩) (by assumption) ?_
          rotate_left 1
          · (intro u hSw; clear hSw; go_simp; try (with_reducible rfl))
          try simp only [Act.put, List.setIfInBounds_toArray, List.set_cons_zero, List.set_cons_succ]
          refine wpAnyH_ready (rs := [18]) (by kernel_rfl) (by simp) ?_
          refine AllReadyH.cons rfl (fun K hK => ?_) AllReadyH.nil
          have HS := Lib.hid hHeld
          clear hHeld
          go_simp
          refine hK.out _ _ HS.out (fun hHeld => ?_)
          clear hK K HS
          try simp only [Act.put, List.setIfInBounds_toArray, List.set_cons_zero, List.set_cons_succ]
          have HE := Lib.hid hHeld
          clear hHeld
          refine wpAnyH_done (by kernel_rfl) ?_ _
          try simp only [Act.put, List.setIfInBounds_toArray, List.set_cons_zero, List.set_cons_succ]
          obtain ⟨k0, k1, k2, k3, k4, k5, k6, k7, k8⟩ := pkCells HE.out.1
          clear k0 k1 k2 k3 k4 k5 k6 k7
          go_wp2_with fail
          refine (ipSum_any _ _ (by rw [HT.out.1]; exact HT.out.2.2)).mono ?_
          rintro e w9 ⟨rfl, B9⟩
          have H9 := Lib.hid (HE.out.2.trans (B9.mono HE.out.2.size))
          clear B9
          simp only []
          go_wp2_with fail
          go_ret
          exact ⟨by rw [HT.out.1]; rfl, H9.out⟩
      case mo8 =>
        refine AllReadyH.cons rfl (fun K hK => ?_) AllReadyH.nil
        have HS := Lib.hid hHeld
        clear hHeld
        have hcv := two_conv HOK.out.2.2 G.out
        rw [← HX.out.2.2.1] at hcv
        go_simp
        refine hK.out _ _ HS.out (fun hHeld => ?_)
        clear hK K HS hcv G
        try simp only [Act.put, List.setIfInBounds_toArray, List.set_cons_zero, List.set_cons_succ]
        refine wpAnyH_ready (rs := [5]) (by kernel_rfl) (by simp) ?_
        refine AllReadyH.cons rfl (fun K hK => ?_) AllReadyH.nil
        have HS := Lib.hid hHeld
        clear hHeld
        go_simp
        refine (addr_any ⟨v2, h2, l2⟩ _ HOK.out.2.1).mono ?_
        rintro e w1 ⟨rfl, B1⟩
        rw [← HX.out.2.1]
        simp only []
        refine hK.out _ _ ⟨(B1.block _ (lt_of_heap HS.out.1)).trans HS.out.1, HS.out.2.trans (B1.mono HS.out.2.size)⟩ (fun hHeld => ?_)
        clear hK K HS B1
        try simp only [Act.put, List.setIfInBounds_toArray, List.set_cons_zero, List.set_cons_succ]
        refine wpAnyH_take (i := 6) (v := ?_) rfl (by kernel_rfl) (by kernel_rfl) (by kernel_rfl) (fun _ _ _ h => h) (Or.inl ⟨by rfl, ?_⟩) (by assumption) ?_
        rotate_left 1
        · (intro u hSw; clear hSw; go_simp; try (with_reducible rfl))
        try simp only [Act.put, List.setIfInBounds_toArray, List.set_cons_zero, List.set_cons_succ]
        refine wpAnyH_take (i := 11) (v := ?_) rfl (by kernel_rfl) (by kernel_rfl) (by kernel_rfl) (fun _ _ _ h => h) (Or.inl ⟨by rfl, ?_⟩) (by assumption) ?_
        rotate_left 1
        · (intro u hSw; clear hSw; go_simp; try (with_reducible rfl))
        try simp only [Act.put, List.setIfInBounds_toArray, List.set_cons_zero, List.set_cons_succ]
        refine wpAnyH_ready (rs := [16]) (by kernel_rfl) (by simp) ?_
        refine AllReadyH.cons rfl (fun K hK => ?_) AllReadyH.nil
        have HS := Lib.hid hHeld
        clear hHeld
        go_simp
        refine (put16 d.size _ HZ.out.1).mono ?_
        rintro e w1 ⟨rfl, B1⟩
        rw [← HX.out.2.2.2]
        simp only []
        refine hK.out _ _ ⟨(B1.block _ (lt_of_heap HS.out.1)).trans HS.out.1, HS.out.2.trans (B1.mono HS.out.2.size)⟩ (fun hHeld => ?_)
        clear hK K HS B1
        try simp only [Act.put, List.setIfInBounds_toArray, List.set_cons_zero, List.set_cons_succ]
        refine wpAnyH_take (i := 17) (v := ?_) rfl (by kernel_rfl) (by kernel_rfl) (by kernel_rfl) (fun _ _ _ h => h) (Or.inl ⟨by rfl, ?_⟩) (by assumption) ?_
        rotate_left 1
        · (intro u hSw; clear hSw; go_simp; try (with_reducible rfl))
        try simp only [Act.put, List.setIfInBounds_toArray, List.set_cons_zero, List.set_cons_succ]
        refine wpAnyH_ready (rs := [18]) (by kernel_rfl) (by simp) ?_
        refine AllReadyH.cons rfl (fun K hK => ?_) AllReadyH.nil
        have HS := Lib.hid hHeld
        clear hHeld
        go_simp
        refine hK.out _ _ HS.out (fun hHeld => ?_)
        clear hK K HS
        try simp only [Act.put, List.setIfInBounds_toArray, List.set_cons_zero, List.set_cons_succ]
        have HE := Lib.hid hHeld
        clear hHeld
        refine wpAnyH_done (by kernel_rfl) ?_ _
        try simp only [Act.put, List.setIfInBounds_toArray, List.set_cons_zero, List.set_cons_succ]
        obtain ⟨k0, k1, k2, k3, k4, k5, k6, k7, k8⟩ := pkCells HE.out.1
        clear k0 k1 k2 k3 k4 k5 k6 k7
        go_wp2_with fail
        refine (ipSum_any _ _ (by rw [HT.out.1]; exact HT.out.2.2)).mono ?_
        rintro e w9 ⟨rfl, B9⟩
        have H9 := Lib.hid (HE.out.2.trans (B9.mono HE.out.2.size))
        clear B9
        simp only []
        go_wp2_with fail
        go_ret
        exact ⟨by rw [HT.out.1]; rfl, H9.out⟩
    case mo7 =>
      refine AllReadyH.cons rfl (fun K hK => ?_) AllReadyH.nil
      have HS := Lib.hid hHeld
      clear hHeld
      have hcv := two_conv HOK.out.2.2 G.out
      rw [← HX.out.2.2.1] at hcv
      go_simp
      refine hK.out _ _ HS.out (fun hHeld => ?_)
      clear hK K HS hcv G
      try simp only [Act.put, List.setIfInBounds_toArray, List.set_cons_zero, List.set_cons_succ]
      refine wpAnyH_ready (rs := [2]) (by kernel_rfl) (by simp) ?_
      refine AllReadyH.cons rfl (fun K hK => ?_) AllReadyH.nil
      have HS := Lib.hid hHeld
      clear hHeld
      go_simp
      refine (addr_any ⟨v1, h1, l1⟩ _ HOK.out.1).mono ?_
      rintro e w1 ⟨rfl, B1⟩
      rw [← HX.out.1]
      simp only []
      refine hK.out _ _ ⟨(B1.block _ (lt_of_heap HS.out.1)).trans HS.out.1, HS.out.2.trans (B1.mono HS.out.2.size)⟩ (fun hHeld => ?_)
      clear hK K HS B1
      try simp only [Act.put, List.setIfInBounds_toArray, List.set_cons_zero, List.set_cons_succ]
      refine wpAnyH_ready (rs := [5]) (by kernel_rfl) (by simp) ?_
      refine AllReadyH.cons rfl (fun K hK => ?_) AllReadyH.nil
      have HS := Lib.hid hHeld
      clear hHeld
      go_simp
      refine (addr_any ⟨v2, h2, l2⟩ _ HOK.out.2.1).mono ?_
      rintro e w1 ⟨rfl, B1⟩
      rw [← HX.out.2.1]
      simp only []
      refine hK.out _ _ ⟨(B1.block _ (lt_of_heap HS.out.1)).trans HS.out.1, HS.out.2.trans (B1.mono HS.out.2.size)⟩ (fun hHeld => ?_)
      clear hK K HS B1
      try simp only [Act.put, List.setIfInBounds_toArray, List.set_cons_zero, List.set_cons_succ]
      refine wpAnyH_take (i := 6) (v := ?_) rfl (by kernel_rfl) (by kernel_rfl) (by kernel_rfl) (fun _ _ _ h => h) (Or.inl ⟨by rfl, ?_⟩) (by assumption) ?_
      rotate_left 1
      · (intro u hSw; clear hSw; go_simp; try (with_reducible rfl))
      try simp only [Act.put, List.setIfInBounds_toArray, List.set_cons_zero, List.set_cons_succ]
      refine wpAnyH_take (i := 11) (v := ?_) rfl (by kernel_rfl) (by kernel_rfl) (by kernel_rfl) (fun _ _ _ h => h) (Or.inl ⟨by rfl, ?_⟩) (by assumption) ?_
      rotate_left 1
      · (intro u hSw; clear hSw; go_simp; try (with_reducible rfl))
      try simp only [Act.put, List.setIfInBounds_toArray, List.set_cons_zero, List.set_cons_succ]
      refine wpAnyH_ready (rs := [16]) (by kernel_rfl) (by simp) ?_
      refine AllReadyH.cons rfl (fun K hK => ?_) AllReadyH.nil
      have HS := Lib.hid hHeld
      clear hHeld
      go_simp
      refine (put16 d.size _ HZ.out.1).mono ?_
      rintro e w1 ⟨rfl, B1⟩
      rw [← HX.out.2.2.2]
      simp only []
      refine hK.out _ _ ⟨(B1.block _ (lt_of_heap HS.out.1)).trans HS.out.1, HS.out.2.trans (B1.mono HS.out.2.size)⟩ (fun hHeld => ?_)
      clear hK K HS B1
      try simp only [Act.put, List.setIfInBounds_toArray, List.set_cons_zero, List.set_cons_succ]
      refine wpAnyH_take (i := 17) (v := ?_) rfl (by kernel_rfl) (by kernel_rfl) (by kernel_rfl) (fun _ _ _ h => h) (Or.inl ⟨by rfl, ?_⟩) (by assumption) ?_
      rotate_left 1
      · (intro u hSw; clear hSw; go_simp; try (with_reducible rfl))
      try simp only [Act.put, List.setIfInBounds_toArray, List.set_cons_zero, List.set_cons_succ]
      refine wpAnyH_ready (rs := [18]) (by kernel_rfl) (by simp) ?_
      refine AllReadyH.cons rfl (fun K hK => ?_) AllReadyH.nil
      have HS := Lib.hid hHeld
      clear hHeld
      go_simp
      refine hK.out _ _ HS.out (fun hHeld => ?_)
      clear hK K HS
      try simp only [Act.put, List.setIfInBounds_toArray, List.set_cons_zero, List.set_cons_succ]
      have HE := Lib.hid hHeld
      clear hHeld
      refine wpAnyH_done (by kernel_rfl) ?_ _
      try simp only [Act.put, List.setIfInBounds_toArray, List.set_cons_zero, List.set_cons_succ]
      obtain ⟨k0, k1, k2, k3, k4, k5, k6, k7, k8⟩ := pkCells HE.out.1
      clear k0 k1 k2 k3 k4 k5 k6 k7
      go_wp2_with fail
      refine (ipSum_any _ _ (by rw [HT.out.1]; exact HT.out.2.2)).mono ?_
      rintro e w9 ⟨rfl, B9⟩
      have H9 := Lib.hid (HE.out.2.trans (B9.mono HE.out.2.size))
      clear B9
      simp only []
      go_wp2_with fail
      go_ret
      exact ⟨by rw [HT.out.1]; rfl, H9.out⟩
set_option maxHeartbeats 16000000 in
set_option maxRecDepth 100000 in
theorem sum_58 (p : Pk) (w : World) (hok : p.Ok) (hd : p.data.size ≤ 10000) (hps : pseudo p = true) (q6 : ¬ p.proto = 6) (q17 : ¬ p.proto = 17) (q58 : p.proto = 58) : Calls Try.prog 33 #[p.val] w fun e w' => e = .returned (.int .u16 (sumP p)) ∧ Below w.heap.size w w' := by
  obtain ⟨⟨v1, h1, l1⟩, ⟨v2, h2, l2⟩, pr, tt, d⟩ := p
  obtain ⟨p, hp⟩ : ∃ p : Pk, p = ⟨⟨v1, h1, l1⟩, ⟨v2, h2, l2⟩, pr, tt, d⟩ := ⟨_, rfl⟩
  have HP := Lib.hid hp
  have HOK := Lib.hid (show (⟨v1, h1, l1⟩ : Ad).Ok ∧ (⟨v2, h2, l2⟩ : Ad).Ok ∧ pr < 256 from ⟨hok.1, hok.2.1, hok.2.2.1⟩)
  have hds : d.size ≤ 10000 := hd
  have HPS := Lib.hid (show pseudo p = true by rw [hp]; exact hps)
  rw [← hp]
  rw [show p.val = .agg #[.bool v1, .int .u64 h1, .int .u64 l1, .bool v2, .int .u64 h2, .int .u64 l2, .int .u8 pr, .int .u8 tt, .string d] by rw [hp]; rfl]
  clear hok hp hps
  obtain ⟨u1, u2⟩ := u16N d.size hds
  have HZ := Lib.hid (show d.size < 65536 ∧ d.size < 18446744073709551616 by omega)
  have hz : (d.size : Int) ≤ 10000 := by omega
  have HW0 := (heap_alloc_last w (.cells #[.bool v1, .int .u64 h1, .int .u64 l1, .bool v2, .int .u64 h2, .int .u64 l2, .int .u8 pr, .int .u8 tt, .string d] 30))
  have HB0 := (Below.refl w.heap.size w).alloc (Nat.le_refl _) (.cells #[.bool v1, .int .u64 h1, .int .u64 l1, .bool v2, .int .u64 h2, .int .u64 l2, .int .u8 pr, .int .u8 tt, .string d] 30)
  obtain ⟨X1, hX1⟩ : ∃ X, X = adS ⟨v1, h1, l1⟩ := ⟨_, rfl⟩
  obtain ⟨X2, hX2⟩ : ∃ X, X = adS ⟨v2, h2, l2⟩ := ⟨_, rfl⟩
  obtain ⟨C, hC⟩ : ∃ X : ByteArray, X = ⟨#[0, UInt8.ofNat pr]⟩ := ⟨_, rfl⟩
  obtain ⟨D, hD⟩ : ∃ X, X = beS d.size 2 := ⟨_, rfl⟩
  have z1 : X1.size ≤ 16 := by rw [hX1]; exact adS_size _
  have z2 : X2.size ≤ 16 := by rw [hX2]; exact adS_size _
  have z3 : C.size = 2 := by rw [hC]; rfl
  have z4 : D.size = 2 := by rw [hD]; exact beS_size _ _
  have a1 := addS X1 X2 (by omega)
  have a2 := addS (X1 ++ X2) C (by rw [ByteArray.size_append, z3]; omega)
  have a3 := addS (X1 ++ X2 ++ C) D (by rw [ByteArray.size_append, ByteArray.size_append, z3, z4]; omega)
  have htot : X1 ++ X2 ++ C ++ D = aheadS p := by
    rw [ahead_yes HPS.out, HP.out, hX1, hX2, hC, hD]

  have hsz : (aheadS p ++ p.data).size ≤ 20000 := by
    rw [ByteArray.size_append, ahead_yes HPS.out, HP.out]
    simp only [ByteArray.size_append]
    rw [← hX1, ← hX2, ← hD, z4]
    show X1.size + X2.size + 2 + 2 + d.size ≤ 20000
    omega
  have HX := Lib.hid (And.intro hX1 (And.intro hX2 (And.intro hC hD)))
  clear hX1 hX2 hC hD
  obtain ⟨T, hT⟩ : ∃ T, T = aheadS p ++ d := ⟨_, rfl⟩
  have HT := Lib.hid (show T = aheadS p ++ p.data ∧ T = aheadS p ++ d ∧ (aheadS p ++ p.data).size ≤ 20000 from ⟨by rw [hT, HP.out], hT, hsz⟩)
  have a4 := addS (X1 ++ X2 ++ C ++ D) d (by rw [htot]; have := hsz; rw [ByteArray.size_append, HP.out] at this; rw [HP.out]; show _ + d.size ≤ _; have h2 : (⟨⟨v1, h1, l1⟩, ⟨v2, h2, l2⟩, pr, tt, d⟩ : Pk).data.size = d.size := rfl; omega)
  rw [htot, ← hT] at a4
  rw [htot] at a3
  have HTOT := Lib.hid htot
  clear htot
  clear hsz hT z1 z2 z3 z4
  have b6 : ((pr : Int) == 6) = false := byNe (b := 6) q6
  have b17 : ((pr : Int) == 17) = false := byNe (b := 17) q17
  have b58 : ((pr : Int) == 58) = true := byEq (b := 58) q58
  clear q6 q17 q58
  go_enter Try.func33, Try.ntmps33
  go_upto_region 6 with (fail)
  obtain ⟨w0, hw0⟩ : ∃ uu, uu = w.alloc (.cells #[.bool v1, .int .u64 h1, .int .u64 l1, .bool v2, .int .u64 h2, .int .u64 l2, .int .u8 pr, .int .u8 tt, .string d] 30) := ⟨_, rfl⟩
  rw [← hw0] at HW0 HB0
  rw [← hw0]
  have HW := Lib.hid (And.intro HW0 HB0)
  clear HW0 HB0 hw0
  refine wp_region_held_drew (S := fun u => u.heap[w.heap.size]? = some (.cells #[.bool v1, .int .u64 h1, .int .u64 l1, .bool v2, .int .u64 h2, .int .u64 l2, .int .u8 pr, .int .u8 tt, .string d] 30) ∧ Below w.heap.size w u) (by kernel_rfl) ⟨HW.out.1, HW.out.2.drew⟩ (fun hHeld => ?_)
  refine wpAnyH_take (i := 0) (v := ?_) rfl (by kernel_rfl) (by kernel_rfl) (by kernel_rfl) (fun _ _ _ h => h) (Or.inl ⟨by rfl, ?_⟩) (by assumption) ?_
  rotate_left 1
  · (intro u hSw; clear hSw; go_simp; try (with_reducible rfl))
  try simp only [Act.put, List.setIfInBounds_toArray, List.set_cons_zero, List.set_cons_succ]
  refine wpAnyH_take (i := 1) (v := ?_) rfl (by kernel_rfl) (by kernel_rfl) (by kernel_rfl) (fun _ _ _ h => h) (Or.inl ⟨by rfl, ?_⟩) (by assumption) ?_
  rotate_left 1
  · (intro u hSw; obtain ⟨k0, k1, k2, k3, k4, k5, k6, k7, k8⟩ := pkCells hSw.1; clear hSw; go_simp; try (with_reducible rfl))
  try simp only [Act.put, List.setIfInBounds_toArray, List.set_cons_zero, List.set_cons_succ]
  refine wpAnyH_take (i := 3) (v := ?_) rfl (by kernel_rfl) (by kernel_rfl) (by kernel_rfl) (fun _ _ _ h => h) (Or.inl ⟨by rfl, ?_⟩) (by assumption) ?_
  rotate_left 1
  · (intro u hSw; clear hSw; go_simp; try (with_reducible rfl))
  try simp only [Act.put, List.setIfInBounds_toArray, List.set_cons_zero, List.set_cons_succ]
  refine wpAnyH_take (i := 4) (v := ?_) rfl (by kernel_rfl) (by kernel_rfl) (by kernel_rfl) (fun _ _ _ h => h) (Or.inl ⟨by rfl, ?_⟩) (by assumption) ?_
  rotate_left 1
  · (intro u hSw; obtain ⟨k0, k1, k2, k3, k4, k5, k6, k7, k8⟩ := pkCells hSw.1; clear hSw; go_simp; try (with_reducible rfl))
  try simp only [Act.put, List.setIfInBounds_toArray, List.set_cons_zero, List.set_cons_succ]
  refine wpAnyH_take (i := 7) (v := ?_) rfl (by kernel_rfl) (by kernel_rfl) (by kernel_rfl) (fun _ _ _ h => h) (Or.inl ⟨by rfl, ?_⟩) (by assumption) ?_
  rotate_left 1
  · (intro u hSw; clear hSw; go_simp; try (with_reducible rfl))
  try simp only [Act.put, List.setIfInBounds_toArray, List.set_cons_zero, List.set_cons_succ]
  refine wpAnyH_take (i := 8) (v := ?_) rfl (by kernel_rfl) (by kernel_rfl) (by kernel_rfl) (fun _ _ _ h => h) (Or.inl ⟨by rfl, ?_⟩) (by assumption) ?_
  rotate_left 1
  · (intro u hSw; obtain ⟨k0, k1, k2, k3, k4, k5, k6, k7, k8⟩ := pkCells hSw.1; clear hSw; go_simp; try (with_reducible rfl))
  try simp only [Act.put, List.setIfInBounds_toArray, List.set_cons_zero, List.set_cons_succ]
  refine wpAnyH_take (i := 12) (v := ?_) rfl (by kernel_rfl) (by kernel_rfl) (by kernel_rfl) (fun _ _ _ h => h) (Or.inl ⟨by rfl, ?_⟩) (by assumption) ?_
  rotate_left 1
  · (intro u hSw; clear hSw; go_simp; try (with_reducible rfl))
  try simp only [Act.put, List.setIfInBounds_toArray, List.set_cons_zero, List.set_cons_succ]
  refine wpAnyH_take (i := 13) (v := ?_) rfl (by kernel_rfl) (by kernel_rfl) (by kernel_rfl) (fun _ _ _ h => h) (Or.inl ⟨by rfl, ?_⟩) (by assumption) ?_
  rotate_left 1
  · (intro u hSw; obtain ⟨k0, k1, k2, k3, k4, k5, k6, k7, k8⟩ := pkCells hSw.1; clear hSw; go_simp; try (with_reducible rfl))
  try simp only [Act.put, List.setIfInBounds_toArray, List.set_cons_zero, List.set_cons_succ]
  refine wpAnyH_take (i := 14) (v := ?_) rfl (by kernel_rfl) (by kernel_rfl) (by kernel_rfl) (fun _ _ _ h => h) (Or.inl ⟨by rfl, ?_⟩) (by assumption) ?_
  rotate_left 1
  · (intro u hSw; clear hSw; go_simp; try (with_reducible rfl))
  try simp only [Act.put, List.setIfInBounds_toArray, List.set_cons_zero, List.set_cons_succ]
  refine wpAnyH_take (i := 15) (v := ?_) rfl (by kernel_rfl) (by kernel_rfl) (by kernel_rfl) (fun _ _ _ h => h) (Or.inl ⟨by rfl, ?_⟩) (by assumption) ?_
  rotate_left 1
  · (intro u hSw; clear hSw; go_simp; try (with_reducible rfl))
  try simp only [Act.put, List.setIfInBounds_toArray, List.set_cons_zero, List.set_cons_succ]
  refine wpAnyH_ready (rs := [2, 9]) (by kernel_rfl) (by simp) ?_
  refine AllReadyH.cons (i := 2) (o := ?o1) ?ho1 (fun K hK => ?st1) ?mo1
  case ho1 => rfl
  case st1 =>
    have HS := Lib.hid hHeld
    clear hHeld
    go_simp
    refine (addr_any ⟨v1, h1, l1⟩ _ HOK.out.1).mono ?_
    rintro e w1 ⟨rfl, B1⟩
    rw [← HX.out.1]
    simp only []
    refine hK.out _ _ ⟨(B1.block _ (lt_of_heap HS.out.1)).trans HS.out.1, HS.out.2.trans (B1.mono HS.out.2.size)⟩ (fun hHeld => ?_)
    clear hK K HS B1
    try simp only [Act.put, List.setIfInBounds_toArray, List.set_cons_zero, List.set_cons_succ]
    refine wpAnyH_ready (rs := [5, 9]) (by kernel_rfl) (by simp) ?_
    refine AllReadyH.cons (i := 5) (o := ?o2) ?ho2 (fun K hK => ?st2) ?mo2
    case ho2 => rfl
    case st2 =>
      have HS := Lib.hid hHeld
      clear hHeld
      go_simp
      refine (addr_any ⟨v2, h2, l2⟩ _ HOK.out.2.1).mono ?_
      rintro e w1 ⟨rfl, B1⟩
      rw [← HX.out.2.1]
      simp only []
      refine hK.out _ _ ⟨(B1.block _ (lt_of_heap HS.out.1)).trans HS.out.1, HS.out.2.trans (B1.mono HS.out.2.size)⟩ (fun hHeld => ?_)
      clear hK K HS B1
      try simp only [Act.put, List.setIfInBounds_toArray, List.set_cons_zero, List.set_cons_succ]
      refine wpAnyH_take (i := 6) (v := ?_) rfl (by kernel_rfl) (by kernel_rfl) (by kernel_rfl) (fun _ _ _ h => h) (Or.inl ⟨by rfl, ?_⟩) (by assumption) ?_
      rotate_left 1
      · (intro u hSw; clear hSw; go_simp; try (with_reducible rfl))
      try simp only [Act.put, List.setIfInBounds_toArray, List.set_cons_zero, List.set_cons_succ]
      refine wpAnyH_ready (rs := [9, 16]) (by kernel_rfl) (by simp) ?_
      refine AllReadyH.cons (i := 9) (o := ?o3) ?ho3 (fun K hK => ?st3) ?mo3
      case ho3 => rfl
      case st3 =>
        have HS := Lib.hid hHeld
        clear hHeld
        go_simp
        refine hK.out _ _ ⟨(heap_keep _ _ (lt_of_heap HS.out.1)).trans HS.out.1, HS.out.2.alloc HS.out.2.size _⟩ (fun hHeld => ?_)
        have G : (w1.alloc (.cells #[.int .u8 0, .int .u8 (pr : Int)] 5)).heap[w1.heap.size]? = some (.cells #[.int .u8 0, .int .u8 (pr : Int)] 5) := heap_alloc_last w1 _
        clear hK K HS
        obtain ⟨g, hgg⟩ : ∃ g, g = w1.heap.size := ⟨_, rfl⟩
        rw [← hgg] at G
        rw [← hgg]
        have G := Lib.hid G
        clear hgg
        try simp only [Act.put, List.setIfInBounds_toArray, List.set_cons_zero, List.set_cons_succ]
        refine wpAnyH_ready (rs := [10, 16]) (by kernel_rfl) (by simp) ?_
        refine AllReadyH.cons (i := 10) (o := ?o4) ?ho4 (fun K hK => ?st4) ?mo4
        case ho4 => rfl
        case st4 =>
          have HS := Lib.hid hHeld
          clear hHeld
          have hcv := two_conv HOK.out.2.2 G.out
          rw [← HX.out.2.2.1] at hcv
          go_simp
          refine hK.out _ _ HS.out (fun hHeld => ?_)
          clear hK K HS hcv G
          try simp only [Act.put, List.setIfInBounds_toArray, List.set_cons_zero, List.set_cons_succ]
          refine wpAnyH_take (i := 11) (v := ?_) rfl (by kernel_rfl) (by kernel_rfl) (by kernel_rfl) (fun _ _ _ h => h) (Or.inl ⟨by rfl, ?_⟩) (by assumption) ?_
          rotate_left 1
          · (intro u hSw; clear hSw; go_simp; try (with_reducible rfl))
          try simp only [Act.put, List.setIfInBounds_toArray, List.set_cons_zero, List.set_cons_succ]
          refine wpAnyH_ready (rs := [16]) (by kernel_rfl) (by simp) ?_
          refine AllReadyH.cons rfl (fun K hK => ?_) AllReadyH.nil
          have HS := Lib.hid hHeld
          clear hHeld
          go_simp
          refine (put16 d.size _ HZ.out.1).mono ?_
          rintro e w1 ⟨rfl, B1⟩
          rw [← HX.out.2.2.2]
          simp only []
          refine hK.out _ _ ⟨(B1.block _ (lt_of_heap HS.out.1)).trans HS.out.1, HS.out.2.trans (B1.mono HS.out.2.size)⟩ (fun hHeld => ?_)
          clear hK K HS B1
          try simp only [Act.put, List.setIfInBounds_toArray, List.set_cons_zero, List.set_cons_succ]
          refine wpAnyH_take (i := 17) (v := ?_) rfl (by kernel_rfl) (by kernel_rfl) (by kernel_rfl) (fun _ _ _ h => h) (Or.inl ⟨by rfl, ?_⟩) (by assumption) ?_
          rotate_left 1
          · (intro u hSw; clear hSw; go_simp; try (with_reducible rfl))
          try simp only [Act.put, List.setIfInBounds_toArray, List.set_cons_zero, List.set_cons_succ]
          refine wpAnyH_ready (rs := [18]) (by kernel_rfl) (by simp) ?_
          refine AllReadyH.cons rfl (fun K hK => ?_) AllReadyH.nil
          have HS := Lib.hid hHeld
          clear hHeld
          go_simp
          refine hK.out _ _ HS.out (fun hHeld => ?_)
          clear hK K HS
          try simp only [Act.put, List.setIfInBounds_toArray, List.set_cons_zero, List.set_cons_succ]
          have HE := Lib.hid hHeld
          clear hHeld
          refine wpAnyH_done (by kernel_rfl) ?_ _
          try simp only [Act.put, List.setIfInBounds_toArray, List.set_cons_zero, List.set_cons_succ]
          obtain ⟨k0, k1, k2, k3, k4, k5, k6, k7, k8⟩ := pkCells HE.out.1
          clear k0 k1 k2 k3 k4 k5 k6 k7
          go_wp2_with fail
          refine (ipSum_any _ _ (by rw [HT.out.1]; exact HT.out.2.2)).mono ?_
          rintro e w9 ⟨rfl, B9⟩
          have H9 := Lib.hid (HE.out.2.trans (B9.mono HE.out.2.size))
          clear B9
          simp only []
          go_wp2_with fail
          go_ret
          exact ⟨by rw [HT.out.1]; rfl, H9.out⟩
        case mo4 =>
          refine AllReadyH.cons rfl (fun K hK => ?_) AllReadyH.nil
          have HS := Lib.hid hHeld
          clear hHeld
          go_simp
          refine (put16 d.size _ HZ.out.1).mono ?_
          rintro e w1 ⟨rfl, B1⟩
          rw [← HX.out.2.2.2]
          simp only []
          refine hK.out _ _ ⟨(B1.block _ (lt_of_heap HS.out.1)).trans HS.out.1, HS.out.2.trans (B1.mono HS.out.2.size)⟩ (fun hHeld => ?_)
          have G := Lib.hid ((B1.block _ (lt_of_heap G.out)).trans G.out)
          clear hK K HS B1
          try simp only [Act.put, List.setIfInBounds_toArray, List.set_cons_zero, List.set_cons_succ]
          refine wpAnyH_ready (rs := [10]) (by kernel_rfl) (by simp) ?_
          refine AllReadyH.cons rfl (fun K hK => ?_) AllReadyH.nil
          have HS := Lib.hid hHeld
          clear hHeld
          have hcv := two_conv HOK.out.2.2 G.out
          rw [← HX.out.2.2.1] at hcv
          go_simp
          refine hK.out _ _ HS.out (fun hHeld => ?_)
          clear hK K HS hcv G
          try simp only [Act.put, List.setIfInBounds_toArray, List.set_cons_zero, List.set_cons_succ]
          refine wpAnyH_take (i := 11) (v := ?_) rfl (by kernel_rfl) (by kernel_rfl) (by kernel_rfl) (fun _ _ _ h => h) (Or.inl ⟨by rfl, ?_⟩) (by assumption) ?_
          rotate_left 1
          · (intro u hSw; clear hSw; go_simp; try (with_reducible rfl))
          try simp only [Act.put, List.setIfInBounds_toArray, List.set_cons_zero, List.set_cons_succ]
          refine wpAnyH_take (i := 17) (v := ?_) rfl (by kernel_rfl) (by kernel_rfl) (by kernel_rfl) (fun _ _ _ h => h) (Or.inl ⟨by rfl, ?_⟩) (by assumption) ?_
          rotate_left 1
          · (intro u hSw; clear hSw; go_simp; try (with_reducible rfl))
          try simp only [Act.put, List.setIfInBounds_toArray, List.set_cons_zero, List.set_cons_succ]
          refine wpAnyH_ready (rs := [18]) (by kernel_rfl) (by simp) ?_
          refine AllReadyH.cons rfl (fun K hK => ?_) AllReadyH.nil
          have HS := Lib.hid hHeld
          clear hHeld
          go_simp
          refine hK.out _ _ HS.out (fun hHeld => ?_)
          clear hK K HS
          try simp only [Act.put, List.setIfInBounds_toArray, List.set_cons_zero, List.set_cons_succ]
          have HE := Lib.hid hHeld
          clear hHeld
          refine wpAnyH_done (by kernel_rfl) ?_ _
          try simp only [Act.put, List.setIfInBounds_toArray, List.set_cons_zero, List.set_cons_succ]
          obtain ⟨k0, k1, k2, k3, k4, k5, k6, k7, k8⟩ := pkCells HE.out.1
          clear k0 k1 k2 k3 k4 k5 k6 k7
          go_wp2_with fail
          refine (ipSum_any _ _ (by rw [HT.out.1]; exact HT.out.2.2)).mono ?_
          rintro e w9 ⟨rfl, B9⟩
          have H9 := Lib.hid (HE.out.2.trans (B9.mono HE.out.2.size))
          clear B9
          simp only []
          go_wp2_with fail
          go_ret
          exact ⟨by rw [HT.out.1]; rfl, H9.out⟩
      case mo3 =>
        refine AllReadyH.cons rfl (fun K hK => ?_) AllReadyH.nil
        have HS := Lib.hid hHeld
        clear hHeld
        go_simp
        refine (put16 d.size _ HZ.out.1).mono ?_
        rintro e w1 ⟨rfl, B1⟩
        rw [← HX.out.2.2.2]
        simp only []
        refine hK.out _ _ ⟨(B1.block _ (lt_of_heap HS.out.1)).trans HS.out.1, HS.out.2.trans (B1.mono HS.out.2.size)⟩ (fun hHeld => ?_)
        clear hK K HS B1
        try simp only [Act.put, List.setIfInBounds_toArray, List.set_cons_zero, List.set_cons_succ]
        refine wpAnyH_ready (rs := [9]) (by kernel_rfl) (by simp) ?_
        refine AllReadyH.cons rfl (fun K hK => ?_) AllReadyH.nil
        have HS := Lib.hid hHeld
        clear hHeld
        go_simp
        refine hK.out _ _ ⟨(heap_keep _ _ (lt_of_heap HS.out.1)).trans HS.out.1, HS.out.2.alloc HS.out.2.size _⟩ (fun hHeld => ?_)
        have G : (w1.alloc (.cells #[.int .u8 0, .int .u8 (pr : Int)] 5)).heap[w1.heap.size]? = some (.cells #[.int .u8 0, .int .u8 (pr : Int)] 5) := heap_alloc_last w1 _
        clear hK K HS
        obtain ⟨g, hgg⟩ : ∃ g, g = w1.heap.size := ⟨_, rfl⟩
        rw [← hgg] at G
        rw [← hgg]
        have G := Lib.hid G
        clear hgg
        try simp only [Act.put, List.setIfInBounds_toArray, List.set_cons_zero, List.set_cons_succ]
        refine wpAnyH_ready (rs := [10]) (by kernel_rfl) (by simp) ?_
        refine AllReadyH.cons rfl (fun K hK => ?_) AllReadyH.nil
        have HS := Lib.hid hHeld
        clear hHeld
        have hcv := two_conv HOK.out.2.2 G.out
        rw [← HX.out.2.2.1] at hcv
        go_simp
        refine hK.out _ _ HS.out (fun hHeld => ?_)
        clear hK K HS hcv G
        try simp only [Act.put, List.setIfInBounds_toArray, List.set_cons_zero, List.set_cons_succ]
        refine wpAnyH_take (i := 11) (v := ?_) rfl (by kernel_rfl) (by kernel_rfl) (by kernel_rfl) (fun _ _ _ h => h) (Or.inl ⟨by rfl, ?_⟩) (by assumption) ?_
        rotate_left 1
        · (intro u hSw; clear hSw; go_simp; try (with_reducible rfl))
        try simp only [Act.put, List.setIfInBounds_toArray, List.set_cons_zero, List.set_cons_succ]
        refine wpAnyH_take (i := 17) (v := ?_) rfl (by kernel_rfl) (by kernel_rfl) (by kernel_rfl) (fun _ _ _ h => h) (Or.inl ⟨by rfl, ?_⟩) (by assumption) ?_
        rotate_left 1
        · (intro u hSw; clear hSw; go_simp; try (with_reducible rfl))
        try simp only [Act.put, List.setIfInBounds_toArray, List.set_cons_zero, List.set_cons_succ]
        refine wpAnyH_ready (rs := [18]) (by kernel_rfl) (by simp) ?_
        refine AllReadyH.cons rfl (fun K hK => ?_) AllReadyH.nil
        have HS := Lib.hid hHeld
        clear hHeld
        go_simp
        refine hK.out _ _ HS.out (fun hHeld => ?_)
        clear hK K HS
        try simp only [Act.put, List.setIfInBounds_toArray, List.set_cons_zero, List.set_cons_succ]
        have HE := Lib.hid hHeld
        clear hHeld
        refine wpAnyH_done (by kernel_rfl) ?_ _
        try simp only [Act.put, List.setIfInBounds_toArray, List.set_cons_zero, List.set_cons_succ]
        obtain ⟨k0, k1, k2, k3, k4, k5, k6, k7, k8⟩ := pkCells HE.out.1
        clear k0 k1 k2 k3 k4 k5 k6 k7
        go_wp2_with fail
        refine (ipSum_any _ _ (by rw [HT.out.1]; exact HT.out.2.2)).mono ?_
        rintro e w9 ⟨rfl, B9⟩
        have H9 := Lib.hid (HE.out.2.trans (B9.mono HE.out.2.size))
        clear B9
        simp only []
        go_wp2_with fail
        go_ret
        exact ⟨by rw [HT.out.1]; rfl, H9.out⟩
    case mo2 =>
      refine AllReadyH.cons rfl (fun K hK => ?_) AllReadyH.nil
      have HS := Lib.hid hHeld
      clear hHeld
      go_simp
      refine hK.out _ _ ⟨(heap_keep _ _ (lt_of_heap HS.out.1)).trans HS.out.1, HS.out.2.alloc HS.out.2.size _⟩ (fun hHeld => ?_)
      have G : (w1.alloc (.cells #[.int .u8 0, .int .u8 (pr : Int)] 5)).heap[w1.heap.size]? = some (.cells #[.int .u8 0, .int .u8 (pr : Int)] 5) := heap_alloc_last w1 _
      clear hK K HS
      obtain ⟨g, hgg⟩ : ∃ g, g = w1.heap.size := ⟨_, rfl⟩
      rw [← hgg] at G
      rw [← hgg]
      have G := Lib.hid G
      clear hgg
      try simp only [Act.put, List.setIfInBounds_toArray, List.set_cons_zero, List.set_cons_succ]
      refine wpAnyH_ready (rs := [5, 10]) (by kernel_rfl) (by simp) ?_
      refine AllReadyH.cons (i := 5) (o := ?o5) ?ho5 (fun K hK => ?st5) ?mo5
      case ho5 => rfl
      case st5 =>
        have HS := Lib.hid hHeld
        clear hHeld
        go_simp
        refine (addr_any ⟨v2, h2, l2⟩ _ HOK.out.2.1).mono ?_
        rintro e w1 ⟨rfl, B1⟩
        rw [← HX.out.2.1]
        simp only []
        refine hK.out _ _ ⟨(B1.block _ (lt_of_heap HS.out.1)).trans HS.out.1, HS.out.2.trans (B1.mono HS.out.2.size)⟩ (fun hHeld => ?_)
        have G := Lib.hid ((B1.block _ (lt_of_heap G.out)).trans G.out)
        clear hK K HS B1
        try simp only [Act.put, List.setIfInBounds_toArray, List.set_cons_zero, List.set_cons_succ]
        refine wpAnyH_take (i := 6) (v := ?_) rfl (by kernel_rfl) (by kernel_rfl) (by kernel_rfl) (fun _ _ _ h => h) (Or.inl ⟨by rfl, ?_⟩) (by assumption) ?_
        rotate_left 1
        · (intro u hSw; clear hSw; go_simp; try (with_reducible rfl))
        try simp only [Act.put, List.setIfInBounds_toArray, List.set_cons_zero, List.set_cons_succ]
        refine wpAnyH_ready (rs := [10, 16]) (by kernel_rfl) (by simp) ?_
        refine AllReadyH.cons (i := 10) (o := ?o6) ?ho6 (fun K hK => ?st6) ?mo6
        case ho6 => rfl
        case st6 =>
          have HS := Lib.hid hHeld
          clear hHeld
          have hcv := two_conv HOK.out.2.2 G.out
          rw [← HX.out.2.2.1] at hcv
          go_simp
          refine hK.out _ _ HS.out (fun hHeld => ?_)
          clear hK K HS hcv G
          try simp only [Act.put, List.setIfInBounds_toArray, List.set_cons_zero, List.set_cons_succ]
          refine wpAnyH_take (i := 11) (v := ?_) rfl (by kernel_rfl) (by kernel_rfl) (by kernel_rfl) (fun _ _ _ h => h) (Or.inl ⟨by rfl, ?_⟩) (by assumption) ?_
          rotate_left 1
          · (intro u hSw; clear hSw; go_simp; try (with_reducible rfl))
          try simp only [Act.put, List.setIfInBounds_toArray, List.set_cons_zero, List.set_cons_succ]
          refine wpAnyH_ready (rs := [16]) (by kernel_rfl) (by simp) ?_
          refine AllReadyH.cons rfl (fun K hK => ?_) AllReadyH.nil
          have HS := Lib.hid hHeld
          clear hHeld
          go_simp
          refine (put16 d.size _ HZ.out.1).mono ?_
          rintro e w1 ⟨rfl, B1⟩
          rw [← HX.out.2.2.2]
          simp only []
          refine hK.out _ _ ⟨(B1.block _ (lt_of_heap HS.out.1)).trans HS.out.1, HS.out.2.trans (B1.mono HS.out.2.size)⟩ (fun hHeld => ?_)
          clear hK K HS B1
          try simp only [Act.put, List.setIfInBounds_toArray, List.set_cons_zero, List.set_cons_succ]
          refine wpAnyH_take (i := 17) (v := ?_) rfl (by kernel_rfl) (by kernel_rfl) (by kernel_rfl) (fun _ _ _ h => h) (Or.inl ⟨by rfl, ?_⟩) (by assumption) ?_
          rotate_left 1
          · (intro u hSw; clear hSw; go_simp; try (with_reducible rfl))
          try simp only [Act.put, List.setIfInBounds_toArray, List.set_cons_zero, List.set_cons_succ]
          refine wpAnyH_ready (rs := [18]) (by kernel_rfl) (by simp) ?_
          refine AllReadyH.cons rfl (fun K hK => ?_) AllReadyH.nil
          have HS := Lib.hid hHeld
          clear hHeld
          go_simp
          refine hK.out _ _ HS.out (fun hHeld => ?_)
          clear hK K HS
          try simp only [Act.put, List.setIfInBounds_toArray, List.set_cons_zero, List.set_cons_succ]
          have HE := Lib.hid hHeld
          clear hHeld
          refine wpAnyH_done (by kernel_rfl) ?_ _
          try simp only [Act.put, List.setIfInBounds_toArray, List.set_cons_zero, List.set_cons_succ]
          obtain ⟨k0, k1, k2, k3, k4, k5, k6, k7, k8⟩ := pkCells HE.out.1
          clear k0 k1 k2 k3 k4 k5 k6 k7
          go_wp2_with fail
          refine (ipSum_any _ _ (by rw [HT.out.1]; exact HT.out.2.2)).mono ?_
          rintro e w9 ⟨rfl, B9⟩
          have H9 := Lib.hid (HE.out.2.trans (B9.mono HE.out.2.size))
          clear B9
          simp only []
          go_wp2_with fail
          go_ret
          exact ⟨by rw [HT.out.1]; rfl, H9.out⟩
        case mo6 =>
          refine AllReadyH.cons rfl (fun K hK => ?_) AllReadyH.nil
          have HS := Lib.hid hHeld
          clear hHeld
          go_simp
          refine (put16 d.size _ HZ.out.1).mono ?_
          rintro e w1 ⟨rfl, B1⟩
          rw [← HX.out.2.2.2]
          simp only []
          refine hK.out _ _ ⟨(B1.block _ (lt_of_heap HS.out.1)).trans HS.out.1, HS.out.2.trans (B1.mono HS.out.2.size)⟩ (fun hHeld => ?_)
          have G := Lib.hid ((B1.block _ (lt_of_heap G.out)).trans G.out)
          clear hK K HS B1
          try simp only [Act.put, List.setIfInBounds_toArray, List.set_cons_zero, List.set_cons_succ]
          refine wpAnyH_ready (rs := [10]) (by kernel_rfl) (by simp) ?_
          refine AllReadyH.cons rfl (fun K hK => ?_) AllReadyH.nil
          have HS := Lib.hid hHeld
          clear hHeld
          have hcv := two_conv HOK.out.2.2 G.out
          rw [← HX.out.2.2.1] at hcv
          go_simp
          refine hK.out _ _ HS.out (fun hHeld => ?_)
          clear hK K HS hcv G
          try simp only [Act.put, List.setIfInBounds_toArray, List.set_cons_zero, List.set_cons_succ]
          refine wpAnyH_take (i := 11) (v := ?_) rfl (by kernel_rfl) (by kernel_rfl) (by kernel_rfl) (fun _ _ _ h => h) (Or.inl ⟨by rfl, ?_⟩) (by assumption) ?_
          rotate_left 1
          · (intro u hSw; clear hSw; go_simp; try (with_reducible rfl))
          try simp only [Act.put, List.setIfInBounds_toArray, List.set_cons_zero, List.set_cons_succ]
          refine wpAnyH_take (i := 17) (v := ?_) rfl (by kernel_rfl) (by kernel_rfl) (by kernel_rfl) (fun _ _ _ h => h) (Or.inl ⟨by rfl, ?_⟩) (by assumption) ?_
          rotate_left 1
          · (intro u hSw; clear hSw; go_simp; try (with_reducible rfl))
          try simp only [Act.put, List.setIfInBounds_toArray, List.set_cons_zero, List.set_cons_succ]
          refine wpAnyH_ready (rs := [18]) (by kernel_rfl) (by simp) ?_
          refine AllReadyH.cons rfl (fun K hK => ?_) AllReadyH.nil
          have HS := Lib.hid hHeld
          clear hHeld
          go_simp
          refine hK.out _ _ HS.out (fun hHeld => ?_)
          clear hK K HS
          try simp only [Act.put, List.setIfInBounds_toArray, List.set_cons_zero, List.set_cons_succ]
          have HE := Lib.hid hHeld
          clear hHeld
          refine wpAnyH_done (by kernel_rfl) ?_ _
          try simp only [Act.put, List.setIfInBounds_toArray, List.set_cons_zero, List.set_cons_succ]
          obtain ⟨k0, k1, k2, k3, k4, k5, k6, k7, k8⟩ := pkCells HE.out.1
          clear k0 k1 k2 k3 k4 k5 k6 k7
          go_wp2_with fail
          refine (ipSum_any _ _ (by rw [HT.out.1]; exact HT.out.2.2)).mono ?_
          rintro e w9 ⟨rfl, B9⟩
          have H9 := Lib.hid (HE.out.2.trans (B9.mono HE.out.2.size))
          clear B9
          simp only []
          go_wp2_with fail
          go_ret
          exact ⟨by rw [HT.out.1]; rfl, H9.out⟩
      case mo5 =>
        refine AllReadyH.cons rfl (fun K hK => ?_) AllReadyH.nil
        have HS := Lib.hid hHeld
        clear hHeld
        have hcv := two_conv HOK.out.2.2 G.out
        rw [← HX.out.2.2.1] at hcv
        go_simp
        refine hK.out _ _ HS.out (fun hHeld => ?_)
        clear hK K HS hcv G
        try simp only [Act.put, List.setIfInBounds_toArray, List.set_cons_zero, List.set_cons_succ]
        refine wpAnyH_ready (rs := [5]) (by kernel_rfl) (by simp) ?_
        refine AllReadyH.cons rfl (fun K hK => ?_) AllReadyH.nil
        have HS := Lib.hid hHeld
        clear hHeld
        go_simp
        refine (addr_any ⟨v2, h2, l2⟩ _ HOK.out.2.1).mono ?_
        rintro e w1 ⟨rfl, B1⟩
        rw [← HX.out.2.1]
        simp only []
        refine hK.out _ _ ⟨(B1.block _ (lt_of_heap HS.out.1)).trans HS.out.1, HS.out.2.trans (B1.mono HS.out.2.size)⟩ (fun hHeld => ?_)
        clear hK K HS B1
        try simp only [Act.put, List.setIfInBounds_toArray, List.set_cons_zero, List.set_cons_succ]
        refine wpAnyH_take (i := 6) (v := ?_) rfl (by kernel_rfl) (by kernel_rfl) (by kernel_rfl) (fun _ _ _ h => h) (Or.inl ⟨by rfl, ?_⟩) (by assumption) ?_
        rotate_left 1
        · (intro u hSw; clear hSw; go_simp; try (with_reducible rfl))
        try simp only [Act.put, List.setIfInBounds_toArray, List.set_cons_zero, List.set_cons_succ]
        refine wpAnyH_take (i := 11) (v := ?_) rfl (by kernel_rfl) (by kernel_rfl) (by kernel_rfl) (fun _ _ _ h => h) (Or.inl ⟨by rfl, ?_⟩) (by assumption) ?_
        rotate_left 1
        · (intro u hSw; clear hSw; go_simp; try (with_reducible rfl))
        try simp only [Act.put, List.setIfInBounds_toArray, List.set_cons_zero, List.set_cons_succ]
        refine wpAnyH_ready (rs := [16]) (by kernel_rfl) (by simp) ?_
        refine AllReadyH.cons rfl (fun K hK => ?_) AllReadyH.nil
        have HS := Lib.hid hHeld
        clear hHeld
        go_simp
        refine (put16 d.size _ HZ.out.1).mono ?_
        rintro e w1 ⟨rfl, B1⟩
        rw [← HX.out.2.2.2]
        simp only []
        refine hK.out _ _ ⟨(B1.block _ (lt_of_heap HS.out.1)).trans HS.out.1, HS.out.2.trans (B1.mono HS.out.2.size)⟩ (fun hHeld => ?_)
        clear hK K HS B1
        try simp only [Act.put, List.setIfInBounds_toArray, List.set_cons_zero, List.set_cons_succ]
        refine wpAnyH_take (i := 17) (v := ?_) rfl (by kernel_rfl) (by kernel_rfl) (by kernel_rfl) (fun _ _ _ h => h) (Or.inl ⟨by rfl, ?_⟩) (by assumption) ?_
        rotate_left 1
        · (intro u hSw; clear hSw; go_simp; try (with_reducible rfl))
        try simp only [Act.put, List.setIfInBounds_toArray, List.set_cons_zero, List.set_cons_succ]
        refine wpAnyH_ready (rs := [18]) (by kernel_rfl) (by simp) ?_
        refine AllReadyH.cons rfl (fun K hK => ?_) AllReadyH.nil
        have HS := Lib.hid hHeld
        clear hHeld
        go_simp
        refine hK.out _ _ HS.out (fun hHeld => ?_)
        clear hK K HS
        try simp only [Act.put, List.setIfInBounds_toArray, List.set_cons_zero, List.set_cons_succ]
        have HE := Lib.hid hHeld
        clear hHeld
        refine wpAnyH_done (by kernel_rfl) ?_ _
        try simp only [Act.put, List.setIfInBounds_toArray, List.set_cons_zero, List.set_cons_succ]
        obtain ⟨k0, k1, k2, k3, k4, k5, k6, k7, k8⟩ := pkCells HE.out.1
        clear k0 k1 k2 k3 k4 k5 k6 k7
        go_wp2_with fail
        refine (ipSum_any _ _ (by rw [HT.out.1]; exact HT.out.2.2)).mono ?_
        rintro e w9 ⟨rfl, B9⟩
        have H9 := Lib.hid (HE.out.2.trans (B9.mono HE.out.2.size))
        clear B9
        simp only []
        go_wp2_with fail
        go_ret
        exact ⟨by rw [HT.out.1]; rfl, H9.out⟩
  case mo1 =>
    refine AllReadyH.cons rfl (fun K hK => ?_) AllReadyH.nil
    have HS := Lib.hid hHeld
    clear hHeld
    go_simp
    refine hK.out _ _ ⟨(heap_keep _ _ (lt_of_heap HS.out.1)).trans HS.out.1, HS.out.2.alloc HS.out.2.size _⟩ (fun hHeld => ?_)
    have G : (w0.alloc (.cells #[.int .u8 0, .int .u8 (pr : Int)] 5)).drew.heap[w0.heap.size]? = some (.cells #[.int .u8 0, .int .u8 (pr : Int)] 5) := heap_alloc_last w0 _
    clear hK K HS
    obtain ⟨g, hgg⟩ : ∃ g, g = w0.heap.size := ⟨_, rfl⟩
    rw [← hgg] at G
    rw [← hgg]
    have G := Lib.hid G
    clear hgg
    try simp only [Act.put, List.setIfInBounds_toArray, List.set_cons_zero, List.set_cons_succ]
    refine wpAnyH_ready (rs := [2, 10]) (by kernel_rfl) (by simp) ?_
    refine AllReadyH.cons (i := 2) (o := ?o7) ?ho7 (fun K hK => ?st7) ?mo7
    case ho7 => rfl
    case st7 =>
      have HS := Lib.hid hHeld
      clear hHeld
      go_simp
      refine (addr_any ⟨v1, h1, l1⟩ _ HOK.out.1).mono ?_
      rintro e w1 ⟨rfl, B1⟩
      rw [← HX.out.1]
      simp only []
      refine hK.out _ _ ⟨(B1.block _ (lt_of_heap HS.out.1)).trans HS.out.1, HS.out.2.trans (B1.mono HS.out.2.size)⟩ (fun hHeld => ?_)
      have G := Lib.hid ((B1.block _ (lt_of_heap G.out)).trans G.out)
      clear hK K HS B1
      try simp only [Act.put, List.setIfInBounds_toArray, List.set_cons_zero, List.set_cons_succ]
      refine wpAnyH_ready (rs := [5, 10]) (by kernel_rfl) (by simp) ?_
      refine AllReadyH.cons (i := 5) (o := ?o8) ?ho8 (fun K hK => ?st8) ?mo8
      case ho8 => rfl
      case st8 =>
        have HS := Lib.hid hHeld
        clear hHeld
        go_simp
        refine (addr_any ⟨v2, h2, l2⟩ _ HOK.out.2.1).mono ?_
        rintro e w1 ⟨rfl, B1⟩
        rw [← HX.out.2.1]
        simp only []
        refine hK.out _ _ ⟨(B1.block _ (lt_of_heap HS.out.1)).trans HS.out.1, HS.out.2.trans (B1.mono HS.out.2.size)⟩ (fun hHeld => ?_)
        have G := Lib.hid ((B1.block _ (lt_of_heap G.out)).trans G.out)
        clear hK K HS B1
        try simp only [Act.put, List.setIfInBounds_toArray, List.set_cons_zero, List.set_cons_succ]
        refine wpAnyH_take (i := 6) (v := ?_) rfl (by kernel_rfl) (by kernel_rfl) (by kernel_rfl) (fun _ _ _ h => h) (Or.inl ⟨by rfl, ?_⟩) (by assumption) ?_
        rotate_left 1
        · (intro u hSw; clear hSw; go_simp; try (with_reducible rfl))
        try simp only [Act.put, List.setIfInBounds_toArray, List.set_cons_zero, List.set_cons_succ]
        refine wpAnyH_ready (rs := [10, 16]) (by kernel_rfl) (by simp) ?_
        refine AllReadyH.cons (i := 10) (o := ?o9) ?ho9 (fun K hK => ?st9) ?mo9
        case ho9 => rfl
        case st9 =>
          have HS := Lib.hid hHeld
          clear hHeld
          have hcv := two_conv HOK.out.2.2 G.out
          rw [← HX.out.2.2.1] at hcv
          go_simp
          refine hK.out _ _ HS.out (fun hHeld => ?_)
          clear hK K HS hcv G
          try simp only [Act.put, List.setIfInBounds_toArray, List.set_cons_zero, List.set_cons_succ]
          refine wpAnyH_take (i := 11) (v := ?_) rfl (by kernel_rfl) (by kernel_rfl) (by kernel_rfl) (fun _ _ _ h => h) (Or.inl ⟨by rfl, ?_⟩) (by assumption) ?_
          rotate_left 1
          · (intro u hSw; clear hSw; go_simp; try (with_reducible rfl))
          try simp only [Act.put, List.setIfInBounds_toArray, List.set_cons_zero, List.set_cons_succ]
          refine wpAnyH_ready (rs := [16]) (by kernel_rfl) (by simp) ?_
          refine AllReadyH.cons rfl (fun K hK => ?_) AllReadyH.nil
          have HS := Lib.hid hHeld
          clear hHeld
          go_simp
          refine (put16 d.size _ HZ.out.1).mono ?_
          rintro e w1 ⟨rfl, B1⟩
          rw [← HX.out.2.2.2]
          simp only []
          refine hK.out _ _ ⟨(B1.block _ (lt_of_heap HS.out.1)).trans HS.out.1, HS.out.2.trans (B1.mono HS.out.2.size)⟩ (fun hHeld => ?_)
          clear hK K HS B1
          try simp only [Act.put, List.setIfInBounds_toArray, List.set_cons_zero, List.set_cons_succ]
          refine wpAnyH_take (i := 17) (v := ?_) rfl (by kernel_rfl) (by kernel_rfl) (by kernel_rfl) (fun _ _ _ h => h) (Or.inl ⟨by rfl, ?_⟩) (by assumption) ?_
          rotate_left 1
          · (intro u hSw; clear hSw; go_simp; try (with_reducible rfl))
          try simp only [Act.put, List.setIfInBounds_toArray, List.set_cons_zero, List.set_cons_succ]
          refine wpAnyH_ready (rs := [18]) (by kernel_rfl) (by simp) ?_
          refine AllReadyH.cons rfl (fun K hK => ?_) AllReadyH.nil
          have HS := Lib.hid hHeld
          clear hHeld
          go_simp
          refine hK.out _ _ HS.out (fun hHeld => ?_)
          clear hK K HS
          try simp only [Act.put, List.setIfInBounds_toArray, List.set_cons_zero, List.set_cons_succ]
          have HE := Lib.hid hHeld
          clear hHeld
          refine wpAnyH_done (by kernel_rfl) ?_ _
          try simp only [Act.put, List.setIfInBounds_toArray, List.set_cons_zero, List.set_cons_succ]
          obtain ⟨k0, k1, k2, k3, k4, k5, k6, k7, k8⟩ := pkCells HE.out.1
          clear k0 k1 k2 k3 k4 k5 k6 k7
          go_wp2_with fail
          refine (ipSum_any _ _ (by rw [HT.out.1]; exact HT.out.2.2)).mono ?_
          rintro e w9 ⟨rfl, B9⟩
          have H9 := Lib.hid (HE.out.2.trans (B9.mono HE.out.2.size))
          clear B9
          simp only []
          go_wp2_with fail
          go_ret
          exact ⟨by rw [HT.out.1]; rfl, H9.out⟩
        case mo9 =>
          refine AllReadyH.cons rfl (fun K hK => ?_) AllReadyH.nil
          have HS := Lib.hid hHeld
          clear hHeld
          go_simp
          refine (put16 d.size _ HZ.out.1).mono ?_
          rintro e w1 ⟨rfl, B1⟩
          rw [← HX.out.2.2.2]
          simp only []
          refine hK.out _ _ ⟨(B1.block _ (lt_of_heap HS.out.1)).trans HS.out.1, HS.out.2.trans (B1.mono HS.out.2.size)⟩ (fun hHeld => ?_)
          have G := Lib.hid ((B1.block _ (lt_of_heap G.out)).trans G.out)
          clear hK K HS B1
          try simp only [Act.put, List.setIfInBounds_toArray, List.set_cons_zero, List.set_cons_succ]
          refine wpAnyH_ready (rs := [10]) (by kernel_rfl) (by simp) ?_
          refine AllReadyH.cons rfl (fun K hK => ?_) AllReadyH.nil
          have HS := Lib.hid hHeld
          clear hHeld
          have hcv := two_conv HOK.out.2.2 G.out
          rw [← HX.out.2.2.1] at hcv
          go_simp
          refine hK.out _ _ HS.out (fun hHeld => ?_)
          clear hK K HS hcv G
          try simp only [Act.put, List.setIfInBounds_toArray, List.set_cons_zero, List.set_cons_succ]
          refine wpAnyH_take (i := 11) (v := ?_) rfl (by kernel_rfl) (by kernel_rfl) (by kernel_rfl) (fun _ _ _ h => h) (Or.inl ⟨by rfl, ?_⟩) (by assumption) ?_
          rotate_left 1
          · (intro u hSw; clear hSw; go_simp; try (with_reducible rfl))
          try simp only [Act.put, List.setIfInBounds_toArray, List.set_cons_zero, List.set_cons_succ]
          refine wpAnyH_take (i := 17) (v := ?_) rfl (by kernel_rfl) (by kernel_rfl) (by kernel_rfl) (fun _ _ _ h => h) (Or.inl ⟨by rfl, ?_⟩) (by assumption) ?_
          rotate_left 1
          · (intro u hSw; clear hSw; go_simp; try (with_reducible rfl))
          try simp only [Act.put, List.setIfInBounds_toArray, List.set_cons_zero, List.set_cons_succ]
          refine wpAnyH_ready (rs := [18]) (by kernel_rfl) (by simp) ?_
          refine AllReadyH.cons rfl (fun K hK => ?_) AllReadyH.nil
          have HS := Lib.hid hHeld
          clear hHeld
          go_simp
          refine hK.out _ _ HS.out (fun hHeld => ?_)
          clear hK K HS
          try simp only [Act.put, List.setIfInBounds_toArray, List.set_cons_zero, List.set_cons_succ]
          have HE := Lib.hid hHeld
          clear hHeld
          refine wpAnyH_done (by kernel_rfl) ?_ _
          try simp only [Act.put, List.setIfInBounds_toArray, List.set_cons_zero, List.set_cons_succ]
          obtain ⟨k0, k1, k2, k3, k4, k5, k6, k7, k8⟩ := pkCells HE.out.1
          clear k0 k1 k2 k3 k4 k5 k6 k7
          go_wp2_with fail
          refine (ipSum_any _ _ (by rw [HT.out.1]; exact HT.out.2.2)).mono ?_
          rintro e w9 ⟨rfl, B9⟩
          have H9 := Lib.hid (HE.out.2.trans (B9.mono HE.out.2.size))
          clear B9
          simp only []
          go_wp2_with fail
          go_ret
          exact ⟨by rw [HT.out.1]; rfl, H9.out⟩
      case mo8 =>
        refine AllReadyH.cons rfl (fun K hK => ?_) AllReadyH.nil
        have HS := Lib.hid hHeld
        clear hHeld
        have hcv := two_conv HOK.out.2.2 G.out
        rw [← HX.out.2.2.1] at hcv
        go_simp
        refine hK.out _ _ HS.out (fun hHeld => ?_)
        clear hK K HS hcv G
        try simp only [Act.put, List.setIfInBounds_toArray, List.set_cons_zero, List.set_cons_succ]
        refine wpAnyH_ready (rs := [5]) (by kernel_rfl) (by simp) ?_
        refine AllReadyH.cons rfl (fun K hK => ?_) AllReadyH.nil
        have HS := Lib.hid hHeld
        clear hHeld
        go_simp
        refine (addr_any ⟨v2, h2, l2⟩ _ HOK.out.2.1).mono ?_
        rintro e w1 ⟨rfl, B1⟩
        rw [← HX.out.2.1]
        simp only []
        refine hK.out _ _ ⟨(B1.block _ (lt_of_heap HS.out.1)).trans HS.out.1, HS.out.2.trans (B1.mono HS.out.2.size)⟩ (fun hHeld => ?_)
        clear hK K HS B1
        try simp only [Act.put, List.setIfInBounds_toArray, List.set_cons_zero, List.set_cons_succ]
        refine wpAnyH_take (i := 6) (v := ?_) rfl (by kernel_rfl) (by kernel_rfl) (by kernel_rfl) (fun _ _ _ h => h) (Or.inl ⟨by rfl, ?_⟩) (by assumption) ?_
        rotate_left 1
        · (intro u hSw; clear hSw; go_simp; try (with_reducible rfl))
        try simp only [Act.put, List.setIfInBounds_toArray, List.set_cons_zero, List.set_cons_succ]
        refine wpAnyH_take (i := 11) (v := ?_) rfl (by kernel_rfl) (by kernel_rfl) (by kernel_rfl) (fun _ _ _ h => h) (Or.inl ⟨by rfl, ?_⟩) (by assumption) ?_
        rotate_left 1
        · (intro u hSw; clear hSw; go_simp; try (with_reducible rfl))
        try simp only [Act.put, List.setIfInBounds_toArray, List.set_cons_zero, List.set_cons_succ]
        refine wpAnyH_ready (rs := [16]) (by kernel_rfl) (by simp) ?_
        refine AllReadyH.cons rfl (fun K hK => ?_) AllReadyH.nil
        have HS := Lib.hid hHeld
        clear hHeld
        go_simp
        refine (put16 d.size _ HZ.out.1).mono ?_
        rintro e w1 ⟨rfl, B1⟩
        rw [← HX.out.2.2.2]
        simp only []
        refine hK.out _ _ ⟨(B1.block _ (lt_of_heap HS.out.1)).trans HS.out.1, HS.out.2.trans (B1.mono HS.out.2.size)⟩ (fun hHeld => ?_)
        clear hK K HS B1
        try simp only [Act.put, List.setIfInBounds_toArray, List.set_cons_zero, List.set_cons_succ]
        refine wpAnyH_take (i := 17) (v := ?_) rfl (by kernel_rfl) (by kernel_rfl) (by kernel_rfl) (fun _ _ _ h => h) (Or.inl ⟨by rfl, ?_⟩) (by assumption) ?_
        rotate_left 1
        · (intro u hSw; clear hSw; go_simp; try (with_reducible rfl))
        try simp only [Act.put, List.setIfInBounds_toArray, List.set_cons_zero, List.set_cons_succ]
        refine wpAnyH_ready (rs := [18]) (by kernel_rfl) (by simp) ?_
        refine AllReadyH.cons rfl (fun K hK => ?_) AllReadyH.nil
        have HS := Lib.hid hHeld
        clear hHeld
        go_simp
        refine hK.out _ _ HS.out (fun hHeld => ?_)
        clear hK K HS
        try simp only [Act.put, List.setIfInBounds_toArray, List.set_cons_zero, List.set_cons_succ]
        have HE := Lib.hid hHeld
        clear hHeld
        refine wpAnyH_done (by kernel_rfl) ?_ _
        try simp only [Act.put, List.setIfInBounds_toArray, List.set_cons_zero, List.set_cons_succ]
        obtain ⟨k0, k1, k2, k3, k4, k5, k6, k7, k8⟩ := pkCells HE.out.1
        clear k0 k1 k2 k3 k4 k5 k6 k7
        go_wp2_with fail
        refine (ipSum_any _ _ (by rw [HT.out.1]; exact HT.out.2.2)).mono ?_
        rintro e w9 ⟨rfl, B9⟩
        have H9 := Lib.hid (HE.out.2.trans (B9.mono HE.out.2.size))
        clear B9
        simp only []
        go_wp2_with fail
        go_ret
        exact ⟨by rw [HT.out.1]; rfl, H9.out⟩
    case mo7 =>
      refine AllReadyH.cons rfl (fun K hK => ?_) AllReadyH.nil
      have HS := Lib.hid hHeld
      clear hHeld
      have hcv := two_conv HOK.out.2.2 G.out
      rw [← HX.out.2.2.1] at hcv
      go_simp
      refine hK.out _ _ HS.out (fun hHeld => ?_)
      clear hK K HS hcv G
      try simp only [Act.put, List.setIfInBounds_toArray, List.set_cons_zero, List.set_cons_succ]
      refine wpAnyH_ready (rs := [2]) (by kernel_rfl) (by simp) ?_
      refine AllReadyH.cons rfl (fun K hK => ?_) AllReadyH.nil
      have HS := Lib.hid hHeld
      clear hHeld
      go_simp
      refine (addr_any ⟨v1, h1, l1⟩ _ HOK.out.1).mono ?_
      rintro e w1 ⟨rfl, B1⟩
      rw [← HX.out.1]
      simp only []
      refine hK.out _ _ ⟨(B1.block _ (lt_of_heap HS.out.1)).trans HS.out.1, HS.out.2.trans (B1.mono HS.out.2.size)⟩ (fun hHeld => ?_)
      clear hK K HS B1
      try simp only [Act.put, List.setIfInBounds_toArray, List.set_cons_zero, List.set_cons_succ]
      refine wpAnyH_ready (rs := [5]) (by kernel_rfl) (by simp) ?_
      refine AllReadyH.cons rfl (fun K hK => ?_) AllReadyH.nil
      have HS := Lib.hid hHeld
      clear hHeld
      go_simp
      refine (addr_any ⟨v2, h2, l2⟩ _ HOK.out.2.1).mono ?_
      rintro e w1 ⟨rfl, B1⟩
      rw [← HX.out.2.1]
      simp only []
      refine hK.out _ _ ⟨(B1.block _ (lt_of_heap HS.out.1)).trans HS.out.1, HS.out.2.trans (B1.mono HS.out.2.size)⟩ (fun hHeld => ?_)
      clear hK K HS B1
      try simp only [Act.put, List.setIfInBounds_toArray, List.set_cons_zero, List.set_cons_succ]
      refine wpAnyH_take (i := 6) (v := ?_) rfl (by kernel_rfl) (by kernel_rfl) (by kernel_rfl) (fun _ _ _ h => h) (Or.inl ⟨by rfl, ?_⟩) (by assumption) ?_
      rotate_left 1
      · (intro u hSw; clear hSw; go_simp; try (with_reducible rfl))
      try simp only [Act.put, List.setIfInBounds_toArray, List.set_cons_zero, List.set_cons_succ]
      refine wpAnyH_take (i := 11) (v := ?_) rfl (by kernel_rfl) (by kernel_rfl) (by kernel_rfl) (fun _ _ _ h => h) (Or.inl ⟨by rfl, ?_⟩) (by assumption) ?_
      rotate_left 1
      · (intro u hSw; clear hSw; go_simp; try (with_reducible rfl))
      try simp only [Act.put, List.setIfInBounds_toArray, List.set_cons_zero, List.set_cons_succ]
      refine wpAnyH_ready (rs := [16]) (by kernel_rfl) (by simp) ?_
      refine AllReadyH.cons rfl (fun K hK => ?_) AllReadyH.nil
      have HS := Lib.hid hHeld
      clear hHeld
      go_simp
      refine (put16 d.size _ HZ.out.1).mono ?_
      rintro e w1 ⟨rfl, B1⟩
      rw [← HX.out.2.2.2]
      simp only []
      refine hK.out _ _ ⟨(B1.block _ (lt_of_heap HS.out.1)).trans HS.out.1, HS.out.2.trans (B1.mono HS.out.2.size)⟩ (fun hHeld => ?_)
      clear hK K HS B1
      try simp only [Act.put, List.setIfInBounds_toArray, List.set_cons_zero, List.set_cons_succ]
      refine wpAnyH_take (i := 17) (v := ?_) rfl (by kernel_rfl) (by kernel_rfl) (by kernel_rfl) (fun _ _ _ h => h) (Or.inl ⟨by rfl, ?_⟩) (by assumption) ?_
      rotate_left 1
      · (intro u hSw; clear hSw; go_simp; try (with_reducible rfl))
      try simp only [Act.put, List.setIfInBounds_toArray, List.set_cons_zero, List.set_cons_succ]
      refine wpAnyH_ready (rs := [18]) (by kernel_rfl) (by simp) ?_
      refine AllReadyH.cons rfl (fun K hK => ?_) AllReadyH.nil
      have HS := Lib.hid hHeld
      clear hHeld
      go_simp
      refine hK.out _ _ HS.out (fun hHeld => ?_)
      clear hK K HS
      try simp only [Act.put, List.setIfInBounds_toArray, List.set_cons_zero, List.set_cons_succ]
      have HE := Lib.hid hHeld
      clear hHeld
      refine wpAnyH_done (by kernel_rfl) ?_ _
      try simp only [Act.put, List.setIfInBounds_toArray, List.set_cons_zero, List.set_cons_succ]
      obtain ⟨k0, k1, k2, k3, k4, k5, k6, k7, k8⟩ := pkCells HE.out.1
      clear k0 k1 k2 k3 k4 k5 k6 k7
      go_wp2_with fail
      refine (ipSum_any _ _ (by rw [HT.out.1]; exact HT.out.2.2)).mono ?_
      rintro e w9 ⟨rfl, B9⟩
      have H9 := Lib.hid (HE.out.2.trans (B9.mono HE.out.2.size))
      clear B9
      simp only []
      go_wp2_with fail
      go_ret
      exact ⟨by rw [HT.out.1]; rfl, H9.out⟩
set_option maxHeartbeats 8000000 in
set_option maxRecDepth 100000 in
theorem sum_none (p : Pk) (w : World) (hok : p.Ok) (hd : p.data.size ≤ 10000) (hps : pseudo p = false) (n6 : ¬ p.proto = 6) (n17 : ¬ p.proto = 17) (n58 : ¬ p.proto = 58) : Calls Try.prog 33 #[p.val] w fun e w' => e = .returned (.int .u16 (sumP p)) ∧ Below w.heap.size w w' := by
  obtain ⟨⟨v1, h1, l1⟩, ⟨v2, h2, l2⟩, pr, tt, d⟩ := p
  obtain ⟨p, hp⟩ : ∃ p : Pk, p = ⟨⟨v1, h1, l1⟩, ⟨v2, h2, l2⟩, pr, tt, d⟩ := ⟨_, rfl⟩
  have HP := Lib.hid hp
  have HOK := Lib.hid (show (⟨v1, h1, l1⟩ : Ad).Ok ∧ (⟨v2, h2, l2⟩ : Ad).Ok ∧ pr < 256 from ⟨hok.1, hok.2.1, hok.2.2.1⟩)
  have hds : d.size ≤ 10000 := hd
  have HPS := Lib.hid (show pseudo p = false by rw [hp]; exact hps)
  rw [← hp]
  rw [show p.val = .agg #[.bool v1, .int .u64 h1, .int .u64 l1, .bool v2, .int .u64 h2, .int .u64 l2, .int .u8 pr, .int .u8 tt, .string d] by rw [hp]; rfl]
  clear hok hp hps
  obtain ⟨u1, u2⟩ := u16N d.size hds
  have HZ := Lib.hid (show d.size < 65536 ∧ d.size < 18446744073709551616 by omega)
  have hz : (d.size : Int) ≤ 10000 := by omega
  have HW0 := (heap_alloc_last w (.cells #[.bool v1, .int .u64 h1, .int .u64 l1, .bool v2, .int .u64 h2, .int .u64 l2, .int .u8 pr, .int .u8 tt, .string d] 30))
  have HB0 := (Below.refl w.heap.size w).alloc (Nat.le_refl _) (.cells #[.bool v1, .int .u64 h1, .int .u64 l1, .bool v2, .int .u64 h2, .int .u64 l2, .int .u8 pr, .int .u8 tt, .string d] 30)
  have b6 : ((pr : Int) == 6) = false := byNe (b := 6) n6
  have b17 : ((pr : Int) == 17) = false := byNe (b := 17) n17
  have b58 : ((pr : Int) == 58) = false := byNe (b := 58) n58
  clear n6 n17 n58
  have he : ByteArray.empty ++ d = d := by apply ByteArray.ext; simp
  have HSZ := Lib.hid (show (ByteArray.empty ++ d).size ≤ 20000 by rw [he]; omega)
  have HFI := Lib.hid (show sumP p = sumV (ByteArray.empty ++ d) by unfold sumP; rw [ahead_no HPS.out, HP.out])
  have a4 := addS .empty d (by have h0 : ByteArray.empty.size = 0 := rfl; omega)
  clear he
  have HW := Lib.hid (And.intro HW0 HB0)
  clear HW0 HB0
  go_enter Try.func33, Try.ntmps33
  go_wp2_with fail
  refine (ipSum_any _ _ HSZ.out).mono ?_
  rintro e w9 ⟨rfl, B9⟩
  have H9 := Lib.hid (HW.out.2.trans (B9.mono HW.out.2.size))
  clear B9
  simp only []
  go_wp2_with fail
  go_ret
  exact ⟨by rw [HFI.out]; rfl, H9.out⟩
theorem sum_any (p : Pk) (w : World) (hok : p.Ok) (hd : p.data.size ≤ 10000) : Calls Try.prog 33 #[p.val] w fun e w' => e = .returned (.int .u16 (sumP p)) ∧ Below w.heap.size w w' := by
  by_cases q6 : p.proto = 6
  · exact sum_6 p w hok hd (by simp [pseudo, q6]) q6
  · by_cases q17 : p.proto = 17
    · exact sum_17 p w hok hd (by simp [pseudo, q17]) q6 q17
    · by_cases q58 : p.proto = 58
      · exact sum_58 p w hok hd (by simp [pseudo, q58]) q6 q17 q58
      · exact sum_none p w hok hd (by simp [pseudo, q6, q17, q58]) q6 q17 q58

end Go.Proofs.Ytgonakpoflacoaa
