/-
  PortReads: the walk.
-/
import Derived.Test.YtgonakpoflacoaaTold
import Derived.Test.YtgonakpoflacoaaRefDec
set_option linter.unusedVariables false
set_option linter.unusedSimpArgs false
namespace Go.Proofs.Ytgonakpoflacoaa
open Go.RowKit

set_option maxHeartbeats 16000000 in
set_option maxRecDepth 100000 in
theorem reads_walk (p : Pk) (g : Fl) (w : World) (hok : p.Ok) : Calls Try.prog 5 #[p.val, g.val] w fun e w' => e = .returned (.bool true) ∧ Below w.heap.size w w' := by
  show Calls Try.prog 5 #[.agg #[.bool p.src.v6, .int .u64 p.src.hi, .int .u64 p.src.lo, .bool p.dst.v6, .int .u64 p.dst.hi, .int .u64 p.dst.lo, .int .u8 p.proto, .int .u8 p.ttl, .string p.data], .agg #[.int .u8 g.proto, .bool g.src.v6, .int .u64 g.src.hi, .int .u64 g.src.lo, .bool g.dst.v6, .int .u64 g.dst.hi, .int .u64 g.dst.lo, .int .u16 g.fp, .int .u16 g.tp]] w _
  have HK0 := Lib.hid (KL.nil w)
  by_cases hs : p.data.size ≤ 8192
  · have hz : ¬ (8192 : Int) < (p.data.size : Int) := by omega
    obtain ⟨H, hH⟩ : ∃ x, x = decH p := ⟨_, rfl⟩
    obtain ⟨E, hE⟩ : ∃ x, x = decE p := ⟨_, rfl⟩
    obtain ⟨S, hS⟩ : ∃ x, x = sumQ p := ⟨_, rfl⟩
    have C14 := Lib.hid (show ∀ u, Calls Try.prog 14 #[.agg #[.bool p.src.v6, .int .u64 p.src.hi, .int .u64 p.src.lo, .bool p.dst.v6, .int .u64 p.dst.hi, .int .u64 p.dst.lo, .int .u8 p.proto, .int .u8 p.ttl, .string p.data]] u fun e w' => e = .returned (.tuple #[.agg #[.int .u8 H.fl.proto, .bool H.fl.src.v6, .int .u64 H.fl.src.hi, .int .u64 H.fl.src.lo, .bool H.fl.dst.v6, .int .u64 H.fl.dst.hi, .int .u64 H.fl.dst.lo, .int .u16 H.fl.fp, .int .u16 H.fl.tp, .int .u8 H.flags, .int .u8 H.kind, .int .u8 H.code, .int .i64 H.size], .int .i64 E]) ∧ Below u.heap.size u w' from fun u => by
      have h := decode_any p u hok (by omega)
      rw [← hH, ← hE] at h
      exact h)
    have C15 := Lib.hid (show ∀ u, Calls Try.prog 15 #[.agg #[.bool p.src.v6, .int .u64 p.src.hi, .int .u64 p.src.lo, .bool p.dst.v6, .int .u64 p.dst.hi, .int .u64 p.dst.lo, .int .u8 p.proto, .int .u8 p.ttl, .string p.data]] u fun e w' => e = .returned (.tuple #[.agg #[.int .u8 H.fl.proto, .bool H.fl.src.v6, .int .u64 H.fl.src.hi, .int .u64 H.fl.src.lo, .bool H.fl.dst.v6, .int .u64 H.fl.dst.hi, .int .u64 H.fl.dst.lo, .int .u16 H.fl.fp, .int .u16 H.fl.tp, .int .u8 H.flags, .int .u8 H.kind, .int .u8 H.code, .int .i64 H.size], .int .i64 E]) ∧ Below u.heap.size u w' from fun u => by
      have h := refDecode_any p u hok (by omega)
      rw [← hH, ← hE] at h
      exact h)
    have C16 := Lib.hid (show ∀ u, Calls Try.prog 16 #[.agg #[.bool p.src.v6, .int .u64 p.src.hi, .int .u64 p.src.lo, .bool p.dst.v6, .int .u64 p.dst.hi, .int .u64 p.dst.lo, .int .u8 p.proto, .int .u8 p.ttl, .string p.data]] u fun e w' => e = .returned (.int .u16 S) ∧ Below u.heap.size u w' from fun u => by
      have h := sumAsk_any p u hok (by omega)
      rw [← hS] at h
      exact h)
    have C17 := Lib.hid (show ∀ u, Calls Try.prog 17 #[.agg #[.bool p.src.v6, .int .u64 p.src.hi, .int .u64 p.src.lo, .bool p.dst.v6, .int .u64 p.dst.hi, .int .u64 p.dst.lo, .int .u8 p.proto, .int .u8 p.ttl, .string p.data]] u fun e w' => e = .returned (.int .u16 S) ∧ Below u.heap.size u w' from fun u => by
      have h := refSumAsk_any p u hok (by omega)
      rw [← hS] at h
      exact h)
    have C18 := Lib.hid (show ∀ u, Calls Try.prog 18 #[.agg #[.int .u8 g.proto, .bool g.src.v6, .int .u64 g.src.hi, .int .u64 g.src.lo, .bool g.dst.v6, .int .u64 g.dst.hi, .int .u64 g.dst.lo, .int .u16 g.fp, .int .u16 g.tp]] u fun e w' => e = .returned (.agg #[.int .u8 g.proto, .bool g.dst.v6, .int .u64 g.dst.hi, .int .u64 g.dst.lo, .bool g.src.v6, .int .u64 g.src.hi, .int .u64 g.src.lo, .int .u16 g.tp, .int .u16 g.fp]) ∧ Below u.heap.size u w' from fun u => reverse_any g u)
    have C19 := Lib.hid (show ∀ u, Calls Try.prog 19 #[.agg #[.int .u8 g.proto, .bool g.src.v6, .int .u64 g.src.hi, .int .u64 g.src.lo, .bool g.dst.v6, .int .u64 g.dst.hi, .int .u64 g.dst.lo, .int .u16 g.fp, .int .u16 g.tp]] u fun e w' => e = .returned (.agg #[.int .u8 g.proto, .bool g.dst.v6, .int .u64 g.dst.hi, .int .u64 g.dst.lo, .bool g.src.v6, .int .u64 g.src.hi, .int .u64 g.src.lo, .int .u16 g.tp, .int .u16 g.fp]) ∧ Below u.heap.size u w' from fun u => refReverse_any g u)
    clear hH hE hS hs hok
    go_enter Try.func5, Try.ntmps5
    go_upto_region 3 with (fail)
    obtain ⟨g2, hgg2⟩ : ∃ g, g = w.heap.size + 1 := ⟨_, rfl⟩
    obtain ⟨g1, hgg1⟩ : ∃ g, g = w.heap.size := ⟨_, rfl⟩
    obtain ⟨ww1, hv1⟩ : ∃ x, x = (World.alloc (World.alloc w (.cells #[.bool p.src.v6, .int .u64 p.src.hi, .int .u64 p.src.lo, .bool p.dst.v6, .int .u64 p.dst.hi, .int .u64 p.dst.lo, .int .u8 p.proto, .int .u8 p.ttl, .string p.data] 30)) (.cells #[.int .u8 g.proto, .bool g.src.v6, .int .u64 g.src.hi, .int .u64 g.src.lo, .bool g.dst.v6, .int .u64 g.dst.hi, .int .u64 g.dst.lo, .int .u16 g.fp, .int .u16 g.tp] 39)) := ⟨_, rfl⟩
    have HK1 : Hid (KL [(g2, .cells #[.int .u8 g.proto, .bool g.src.v6, .int .u64 g.src.hi, .int .u64 g.src.lo, .bool g.dst.v6, .int .u64 g.dst.hi, .int .u64 g.dst.lo, .int .u16 g.fp, .int .u16 g.tp] 39), (g1, .cells #[.bool p.src.v6, .int .u64 p.src.hi, .int .u64 p.src.lo, .bool p.dst.v6, .int .u64 p.dst.hi, .int .u64 p.dst.lo, .int .u8 p.proto, .int .u8 p.ttl, .string p.data] 30)] w ww1) := by rw [hv1, hgg1, hgg2]; exact Lib.hid (HK0.out.made2 (.cells #[.bool p.src.v6, .int .u64 p.src.hi, .int .u64 p.src.lo, .bool p.dst.v6, .int .u64 p.dst.hi, .int .u64 p.dst.lo, .int .u8 p.proto, .int .u8 p.ttl, .string p.data] 30) (.cells #[.int .u8 g.proto, .bool g.src.v6, .int .u64 g.src.hi, .int .u64 g.src.lo, .bool g.dst.v6, .int .u64 g.dst.hi, .int .u64 g.dst.lo, .int .u16 g.fp, .int .u16 g.tp] 39))
    rw [← hv1]
    rw [← hgg2]
    rw [← hgg1]
    clear hv1 hgg1 hgg2
    obtain ⟨k0, k1, k2, k3, k4, k5, k6, k7, k8⟩ := pkCells (HK1.out.tail.head)
    go_wp2_with fail
    clear k0 k1 k2 k3 k4 k5 k6 k7 k8
    refine (C14.out _).mono ?_
    rintro e ww2 ⟨rfl, B1⟩
    simp only []
    have HK2 := Lib.hid (HK1.out.call B1)
    clear B1
    go_upto_region 4 with (fail)
    obtain ⟨g3, hgg3⟩ : ∃ g, g = ww2.heap.size := ⟨_, rfl⟩
    obtain ⟨ww3, hv3⟩ : ∃ x, x = (World.alloc ww2 (.cells #[.int .u8 H.fl.proto, .bool H.fl.src.v6, .int .u64 H.fl.src.hi, .int .u64 H.fl.src.lo, .bool H.fl.dst.v6, .int .u64 H.fl.dst.hi, .int .u64 H.fl.dst.lo, .int .u16 H.fl.fp, .int .u16 H.fl.tp, .int .u8 H.flags, .int .u8 H.kind, .int .u8 H.code, .int .i64 H.size] 41)) := ⟨_, rfl⟩
    have HK3 : Hid (KL [(g3, .cells #[.int .u8 H.fl.proto, .bool H.fl.src.v6, .int .u64 H.fl.src.hi, .int .u64 H.fl.src.lo, .bool H.fl.dst.v6, .int .u64 H.fl.dst.hi, .int .u64 H.fl.dst.lo, .int .u16 H.fl.fp, .int .u16 H.fl.tp, .int .u8 H.flags, .int .u8 H.kind, .int .u8 H.code, .int .i64 H.size] 41), (g2, .cells #[.int .u8 g.proto, .bool g.src.v6, .int .u64 g.src.hi, .int .u64 g.src.lo, .bool g.dst.v6, .int .u64 g.dst.hi, .int .u64 g.dst.lo, .int .u16 g.fp, .int .u16 g.tp] 39), (g1, .cells #[.bool p.src.v6, .int .u64 p.src.hi, .int .u64 p.src.lo, .bool p.dst.v6, .int .u64 p.dst.hi, .int .u64 p.dst.lo, .int .u8 p.proto, .int .u8 p.ttl, .string p.data] 30)] w ww3) := by rw [hv3, hgg3]; exact Lib.hid (HK2.out.made (.cells #[.int .u8 H.fl.proto, .bool H.fl.src.v6, .int .u64 H.fl.src.hi, .int .u64 H.fl.src.lo, .bool H.fl.dst.v6, .int .u64 H.fl.dst.hi, .int .u64 H.fl.dst.lo, .int .u16 H.fl.fp, .int .u16 H.fl.tp, .int .u8 H.flags, .int .u8 H.kind, .int .u8 H.code, .int .i64 H.size] 41))
    rw [← hv3]
    rw [← hgg3]
    clear hv3 hgg3
    obtain ⟨k0, k1, k2, k3, k4, k5, k6, k7, k8⟩ := pkCells (HK3.out.tail.tail.head)
    go_wp2_with fail
    clear k0 k1 k2 k3 k4 k5 k6 k7 k8
    refine (C15.out _).mono ?_
    rintro e ww4 ⟨rfl, B1⟩
    simp only []
    have HK4 := Lib.hid (HK3.out.call B1)
    clear B1
    go_upto_region 5 with (fail)
    obtain ⟨g4, hgg4⟩ : ∃ g, g = ww4.heap.size := ⟨_, rfl⟩
    obtain ⟨ww5, hv5⟩ : ∃ x, x = (World.alloc ww4 (.cells #[.int .u8 H.fl.proto, .bool H.fl.src.v6, .int .u64 H.fl.src.hi, .int .u64 H.fl.src.lo, .bool H.fl.dst.v6, .int .u64 H.fl.dst.hi, .int .u64 H.fl.dst.lo, .int .u16 H.fl.fp, .int .u16 H.fl.tp, .int .u8 H.flags, .int .u8 H.kind, .int .u8 H.code, .int .i64 H.size] 41)) := ⟨_, rfl⟩
    have HK5 : Hid (KL [(g4, .cells #[.int .u8 H.fl.proto, .bool H.fl.src.v6, .int .u64 H.fl.src.hi, .int .u64 H.fl.src.lo, .bool H.fl.dst.v6, .int .u64 H.fl.dst.hi, .int .u64 H.fl.dst.lo, .int .u16 H.fl.fp, .int .u16 H.fl.tp, .int .u8 H.flags, .int .u8 H.kind, .int .u8 H.code, .int .i64 H.size] 41), (g3, .cells #[.int .u8 H.fl.proto, .bool H.fl.src.v6, .int .u64 H.fl.src.hi, .int .u64 H.fl.src.lo, .bool H.fl.dst.v6, .int .u64 H.fl.dst.hi, .int .u64 H.fl.dst.lo, .int .u16 H.fl.fp, .int .u16 H.fl.tp, .int .u8 H.flags, .int .u8 H.kind, .int .u8 H.code, .int .i64 H.size] 41), (g2, .cells #[.int .u8 g.proto, .bool g.src.v6, .int .u64 g.src.hi, .int .u64 g.src.lo, .bool g.dst.v6, .int .u64 g.dst.hi, .int .u64 g.dst.lo, .int .u16 g.fp, .int .u16 g.tp] 39), (g1, .cells #[.bool p.src.v6, .int .u64 p.src.hi, .int .u64 p.src.lo, .bool p.dst.v6, .int .u64 p.dst.hi, .int .u64 p.dst.lo, .int .u8 p.proto, .int .u8 p.ttl, .string p.data] 30)] w ww5) := by rw [hv5, hgg4]; exact Lib.hid (HK4.out.made (.cells #[.int .u8 H.fl.proto, .bool H.fl.src.v6, .int .u64 H.fl.src.hi, .int .u64 H.fl.src.lo, .bool H.fl.dst.v6, .int .u64 H.fl.dst.hi, .int .u64 H.fl.dst.lo, .int .u16 H.fl.fp, .int .u16 H.fl.tp, .int .u8 H.flags, .int .u8 H.kind, .int .u8 H.code, .int .i64 H.size] 41))
    rw [← hv5]
    rw [← hgg4]
    clear hv5 hgg4
    refine wp_region_held_drew (S := fun u => KL [(g4, .cells #[.int .u8 H.fl.proto, .bool H.fl.src.v6, .int .u64 H.fl.src.hi, .int .u64 H.fl.src.lo, .bool H.fl.dst.v6, .int .u64 H.fl.dst.hi, .int .u64 H.fl.dst.lo, .int .u16 H.fl.fp, .int .u16 H.fl.tp, .int .u8 H.flags, .int .u8 H.kind, .int .u8 H.code, .int .i64 H.size] 41), (g3, .cells #[.int .u8 H.fl.proto, .bool H.fl.src.v6, .int .u64 H.fl.src.hi, .int .u64 H.fl.src.lo, .bool H.fl.dst.v6, .int .u64 H.fl.dst.hi, .int .u64 H.fl.dst.lo, .int .u16 H.fl.fp, .int .u16 H.fl.tp, .int .u8 H.flags, .int .u8 H.kind, .int .u8 H.code, .int .i64 H.size] 41), (g2, .cells #[.int .u8 g.proto, .bool g.src.v6, .int .u64 g.src.hi, .int .u64 g.src.lo, .bool g.dst.v6, .int .u64 g.dst.hi, .int .u64 g.dst.lo, .int .u16 g.fp, .int .u16 g.tp] 39), (g1, .cells #[.bool p.src.v6, .int .u64 p.src.hi, .int .u64 p.src.lo, .bool p.dst.v6, .int .u64 p.dst.hi, .int .u64 p.dst.lo, .int .u8 p.proto, .int .u8 p.ttl, .string p.data] 30)] w u) (by kernel_rfl) HK5.out.drew (fun hHeld => ?_)
    refine wpAnyH_take (i := 0) (v := ?_) rfl (by kernel_rfl) (by kernel_rfl) (by kernel_rfl) (fun _ _ _ h => h) (Or.inl ⟨by rfl, ?_⟩) (by assumption) ?_
    rotate_left 1
    · (intro u hSw; have hSv := hSw; clear hSw; obtain ⟨⟨j0, j1, j2, j3, j4, j5, j6⟩, j7, j8, j9, j10, j11, j12⟩ := hdAll hSv.tail.head; clear hSv; go_simp; try (with_reducible rfl))
    try simp only [Act.put, List.getElem_toArray, List.getElem_cons_zero, List.getElem_cons_succ, List.setIfInBounds_toArray, List.set_cons_zero, List.set_cons_succ]
    refine wpAnyH_take (i := 1) (v := ?_) rfl (by kernel_rfl) (by kernel_rfl) (by kernel_rfl) (fun _ _ _ h => h) (Or.inl ⟨by rfl, ?_⟩) (by assumption) ?_
    rotate_left 1
    · (intro u hSw; have hSv := hSw; clear hSw; obtain ⟨⟨j0, j1, j2, j3, j4, j5, j6⟩, j7, j8, j9, j10, j11, j12⟩ := hdAll hSv.head; clear hSv; go_simp; try (with_reducible rfl))
    try simp only [Act.put, List.getElem_toArray, List.getElem_cons_zero, List.getElem_cons_succ, List.setIfInBounds_toArray, List.set_cons_zero, List.set_cons_succ]
    refine wpAnyH_take (i := 2) (v := ?_) rfl (by kernel_rfl) (by kernel_rfl) (by kernel_rfl) (fun _ _ _ h => h) (Or.inl ⟨by rfl, ?_⟩) (by assumption) ?_
    rotate_left 1
    · (intro u hSw; clear hSw; go_simp; try (with_reducible rfl))
    try simp only [Act.put, List.getElem_toArray, List.getElem_cons_zero, List.getElem_cons_succ, List.setIfInBounds_toArray, List.set_cons_zero, List.set_cons_succ]
    refine wpAnyH_take (i := 3) (v := ?_) rfl (by kernel_rfl) (by kernel_rfl) (by kernel_rfl) (fun _ _ _ h => h) (Or.inl ⟨by rfl, ?_⟩) (by assumption) ?_
    rotate_left 1
    · (intro u hSw; clear hSw; go_simp; try (with_reducible rfl))
    try simp only [Act.put, List.getElem_toArray, List.getElem_cons_zero, List.getElem_cons_succ, List.setIfInBounds_toArray, List.set_cons_zero, List.set_cons_succ]
    refine wpAnyH_take (i := 4) (v := ?_) rfl (by kernel_rfl) (by kernel_rfl) (by kernel_rfl) (fun _ _ _ h => h) (Or.inl ⟨by rfl, ?_⟩) (by assumption) ?_
    rotate_left 1
    · (intro u hSw; clear hSw; go_simp; try (with_reducible rfl))
    try simp only [Act.put, List.getElem_toArray, List.getElem_cons_zero, List.getElem_cons_succ, List.setIfInBounds_toArray, List.set_cons_zero, List.set_cons_succ]
    refine wpAnyH_take (i := 5) (v := ?_) rfl (by kernel_rfl) (by kernel_rfl) (by kernel_rfl) (fun _ _ _ h => h) (Or.inl ⟨by rfl, ?_⟩) (by assumption) ?_
    rotate_left 1
    · (intro u hSw; clear hSw; go_simp; try (with_reducible rfl))
    try simp only [Act.put, List.getElem_toArray, List.getElem_cons_zero, List.getElem_cons_succ, List.setIfInBounds_toArray, List.set_cons_zero, List.set_cons_succ]
    refine wpAnyH_take (i := 6) (v := ?_) rfl (by kernel_rfl) (by kernel_rfl) (by kernel_rfl) (fun _ _ _ h => h) (Or.inl ⟨by rfl, ?_⟩) (by assumption) ?_
    rotate_left 1
    · (intro u hSw; clear hSw; go_simp; try (with_reducible rfl))
    try simp only [Act.put, List.getElem_toArray, List.getElem_cons_zero, List.getElem_cons_succ, List.setIfInBounds_toArray, List.set_cons_zero, List.set_cons_succ]
    refine wpAnyH_take (i := 7) (v := ?_) rfl (by kernel_rfl) (by kernel_rfl) (by kernel_rfl) (fun _ _ _ h => h) (Or.inl ⟨by rfl, ?_⟩) (by assumption) ?_
    rotate_left 1
    · (intro u hSw; clear hSw; go_simp; try (with_reducible rfl))
    try simp only [Act.put, List.getElem_toArray, List.getElem_cons_zero, List.getElem_cons_succ, List.setIfInBounds_toArray, List.set_cons_zero, List.set_cons_succ]
    refine wpAnyH_take (i := 8) (v := ?_) rfl (by kernel_rfl) (by kernel_rfl) (by kernel_rfl) (fun _ _ _ h => h) (Or.inl ⟨by rfl, ?_⟩) (by assumption) ?_
    rotate_left 1
    · (intro u hSw; clear hSw; go_simp; try (with_reducible rfl))
    try simp only [Act.put, List.getElem_toArray, List.getElem_cons_zero, List.getElem_cons_succ, List.setIfInBounds_toArray, List.set_cons_zero, List.set_cons_succ]
    refine wpAnyH_take (i := 9) (v := ?_) rfl (by kernel_rfl) (by kernel_rfl) (by kernel_rfl) (fun _ _ _ h => h) (Or.inl ⟨by rfl, ?_⟩) (by assumption) ?_
    rotate_left 1
    · (intro u hSw; have hSv := hSw; clear hSw; obtain ⟨k0, k1, k2, k3, k4, k5, k6, k7, k8⟩ := pkCells hSv.tail.tail.tail.head; clear hSv; go_simp; try (with_reducible rfl))
    try simp only [Act.put, List.getElem_toArray, List.getElem_cons_zero, List.getElem_cons_succ, List.setIfInBounds_toArray, List.set_cons_zero, List.set_cons_succ]
    refine wpAnyH_take (i := 11) (v := ?_) rfl (by kernel_rfl) (by kernel_rfl) (by kernel_rfl) (fun _ _ _ h => h) (Or.inl ⟨by rfl, ?_⟩) (by assumption) ?_
    rotate_left 1
    · (intro u hSw; have hSv := hSw; clear hSw; obtain ⟨k0, k1, k2, k3, k4, k5, k6, k7, k8⟩ := pkCells hSv.tail.tail.tail.head; clear hSv; go_simp; try (with_reducible rfl))
    try simp only [Act.put, List.getElem_toArray, List.getElem_cons_zero, List.getElem_cons_succ, List.setIfInBounds_toArray, List.set_cons_zero, List.set_cons_succ]
    refine wpAnyH_ready (rs := [10]) (by kernel_rfl) (by simp) ?_
    refine AllReadyH.cons rfl (fun K hK => ?_) AllReadyH.nil
    have HS := Lib.hid hHeld
    clear hHeld
    go_simp
    refine (C16.out _).mono ?_
    rintro e w1 ⟨rfl, B1⟩
    simp only []
    refine hK.out _ _ (HS.out.call B1) (fun hHeld => ?_)
    clear hK K HS B1
    try simp only [Act.put, List.getElem_toArray, List.getElem_cons_zero, List.getElem_cons_succ, List.setIfInBounds_toArray, List.set_cons_zero, List.set_cons_succ]
    refine wpAnyH_ready (rs := [12]) (by kernel_rfl) (by simp) ?_
    refine AllReadyH.cons rfl (fun K hK => ?_) AllReadyH.nil
    have HS := Lib.hid hHeld
    clear hHeld
    go_simp
    refine (C17.out _).mono ?_
    rintro e w1 ⟨rfl, B1⟩
    simp only []
    refine hK.out _ _ (HS.out.call B1) (fun hHeld => ?_)
    clear hK K HS B1
    try simp only [Act.put, List.getElem_toArray, List.getElem_cons_zero, List.getElem_cons_succ, List.setIfInBounds_toArray, List.set_cons_zero, List.set_cons_succ]
    refine wpAnyH_take (i := 13) (v := ?_) rfl (by kernel_rfl) (by kernel_rfl) (by kernel_rfl) (fun _ _ _ h => h) (Or.inl ⟨by rfl, ?_⟩) (by assumption) ?_
    rotate_left 1
    · (intro u hSw; clear hSw; go_simp; try (with_reducible rfl))
    try simp only [Act.put, List.getElem_toArray, List.getElem_cons_zero, List.getElem_cons_succ, List.setIfInBounds_toArray, List.set_cons_zero, List.set_cons_succ]
    refine wpAnyH_take (i := 14) (v := ?_) rfl (by kernel_rfl) (by kernel_rfl) (by kernel_rfl) (fun _ _ _ h => h) (Or.inl ⟨by rfl, ?_⟩) (by assumption) ?_
    rotate_left 1
    · (intro u hSw; clear hSw; go_simp; try (with_reducible rfl))
    try simp only [Act.put, List.getElem_toArray, List.getElem_cons_zero, List.getElem_cons_succ, List.setIfInBounds_toArray, List.set_cons_zero, List.set_cons_succ]
    refine wpAnyH_take (i := 15) (v := ?_) rfl (by kernel_rfl) (by kernel_rfl) (by kernel_rfl) (fun _ _ _ h => h) (Or.inl ⟨by rfl, ?_⟩) (by assumption) ?_
    rotate_left 1
    · (intro u hSw; clear hSw; go_simp; try (with_reducible rfl))
    try simp only [Act.put, List.getElem_toArray, List.getElem_cons_zero, List.getElem_cons_succ, List.setIfInBounds_toArray, List.set_cons_zero, List.set_cons_succ]
    refine wpAnyH_take (i := 16) (v := ?_) rfl (by kernel_rfl) (by kernel_rfl) (by kernel_rfl) (fun _ _ _ h => h) (Or.inl ⟨by rfl, ?_⟩) (by assumption) ?_
    rotate_left 1
    · (intro u hSw; have hSv := hSw; clear hSw; obtain ⟨k0, k1, k2, k3, k4, k5, k6, k7, k8⟩ := flCells hSv.tail.tail.head; clear hSv; go_simp; try (with_reducible rfl))
    try simp only [Act.put, List.getElem_toArray, List.getElem_cons_zero, List.getElem_cons_succ, List.setIfInBounds_toArray, List.set_cons_zero, List.set_cons_succ]
    refine wpAnyH_take (i := 18) (v := ?_) rfl (by kernel_rfl) (by kernel_rfl) (by kernel_rfl) (fun _ _ _ h => h) (Or.inl ⟨by rfl, ?_⟩) (by assumption) ?_
    rotate_left 1
    · (intro u hSw; have hSv := hSw; clear hSw; obtain ⟨k0, k1, k2, k3, k4, k5, k6, k7, k8⟩ := flCells hSv.tail.tail.head; clear hSv; go_simp; try (with_reducible rfl))
    try simp only [Act.put, List.getElem_toArray, List.getElem_cons_zero, List.getElem_cons_succ, List.setIfInBounds_toArray, List.set_cons_zero, List.set_cons_succ]
    refine wpAnyH_ready (rs := [17]) (by kernel_rfl) (by simp) ?_
    refine AllReadyH.cons rfl (fun K hK => ?_) AllReadyH.nil
    have HS := Lib.hid hHeld
    clear hHeld
    go_simp
    refine (C18.out _).mono ?_
    rintro e w1 ⟨rfl, B1⟩
    simp only []
    refine hK.out _ _ (HS.out.call B1) (fun hHeld => ?_)
    clear hK K HS B1
    try simp only [Act.put, List.getElem_toArray, List.getElem_cons_zero, List.getElem_cons_succ, List.setIfInBounds_toArray, List.set_cons_zero, List.set_cons_succ]
    refine wpAnyH_ready (rs := [19]) (by kernel_rfl) (by simp) ?_
    refine AllReadyH.cons rfl (fun K hK => ?_) AllReadyH.nil
    have HS := Lib.hid hHeld
    clear hHeld
    go_simp
    refine (C19.out _).mono ?_
    rintro e w1 ⟨rfl, B1⟩
    simp only []
    refine hK.out _ _ (HS.out.call B1) (fun hHeld => ?_)
    clear hK K HS B1
    try simp only [Act.put, List.getElem_toArray, List.getElem_cons_zero, List.getElem_cons_succ, List.setIfInBounds_toArray, List.set_cons_zero, List.set_cons_succ]
    refine wpAnyH_take (i := 20) (v := ?_) rfl (by kernel_rfl) (by kernel_rfl) (by kernel_rfl) (fun _ _ _ h => h) (Or.inl ⟨by rfl, ?_⟩) (by assumption) ?_
    rotate_left 1
    · (intro u hSw; clear hSw; go_simp; try (with_reducible rfl))
    try simp only [Act.put, List.getElem_toArray, List.getElem_cons_zero, List.getElem_cons_succ, List.setIfInBounds_toArray, List.set_cons_zero, List.set_cons_succ]
    refine wpAnyH_take (i := 21) (v := ?_) rfl (by kernel_rfl) (by kernel_rfl) (by kernel_rfl) (fun _ _ _ h => h) (Or.inl ⟨by rfl, ?_⟩) (by assumption) ?_
    rotate_left 1
    · (intro u hSw; clear hSw; go_simp; try (with_reducible rfl))
    try simp only [Act.put, List.getElem_toArray, List.getElem_cons_zero, List.getElem_cons_succ, List.setIfInBounds_toArray, List.set_cons_zero, List.set_cons_succ]
    refine wpAnyH_take (i := 22) (v := ?_) rfl (by kernel_rfl) (by kernel_rfl) (by kernel_rfl) (fun _ _ _ h => h) (Or.inl ⟨by rfl, ?_⟩) (by assumption) ?_
    rotate_left 1
    · (intro u hSw; clear hSw; go_simp; try (with_reducible rfl))
    try simp only [Act.put, List.getElem_toArray, List.getElem_cons_zero, List.getElem_cons_succ, List.setIfInBounds_toArray, List.set_cons_zero, List.set_cons_succ]
    refine wpAnyH_ready (rs := [23]) (by kernel_rfl) (by simp) ?_
    refine AllReadyH.cons rfl (fun K hK => ?_) AllReadyH.nil
    have HS := Lib.hid hHeld
    clear hHeld
    go_simp
    refine (works_any _).mono ?_
    rintro e w1 ⟨rfl, B1⟩
    simp only []
    refine hK.out _ _ (HS.out.call B1) (fun hHeld => ?_)
    clear hK K HS B1
    try simp only [Act.put, List.getElem_toArray, List.getElem_cons_zero, List.getElem_cons_succ, List.setIfInBounds_toArray, List.set_cons_zero, List.set_cons_succ]
    refine wpAnyH_take (i := 24) (v := ?_) rfl (by kernel_rfl) (by kernel_rfl) (by kernel_rfl) (fun _ _ _ h => h) (Or.inl ⟨by rfl, ?_⟩) (by assumption) ?_
    rotate_left 1
    · (intro u hSw; clear hSw; go_simp; try (with_reducible rfl))
    try simp only [Act.put, List.getElem_toArray, List.getElem_cons_zero, List.getElem_cons_succ, List.setIfInBounds_toArray, List.set_cons_zero, List.set_cons_succ]
    refine wpAnyH_take (i := 25) (v := ?_) rfl (by kernel_rfl) (by kernel_rfl) (by kernel_rfl) (fun _ _ _ h => h) (Or.inl ⟨by rfl, ?_⟩) (by assumption) ?_
    rotate_left 1
    · (intro u hSw; clear hSw; go_simp; try (with_reducible rfl))
    try simp only [Act.put, List.getElem_toArray, List.getElem_cons_zero, List.getElem_cons_succ, List.setIfInBounds_toArray, List.set_cons_zero, List.set_cons_succ]
    have HE := Lib.hid hHeld
    clear hHeld
    refine wpAnyH_done (by kernel_rfl) ?_ _
    try simp only [Act.put, List.getElem_toArray, List.getElem_cons_zero, List.getElem_cons_succ, List.setIfInBounds_toArray, List.set_cons_zero, List.set_cons_succ]
    go_wp2_with fail
    go_ret
    exact ⟨rfl, HE.out.2⟩
  · have hz : (8192 : Int) < (p.data.size : Int) := by omega
    clear hs hok
    go_enter Try.func5, Try.ntmps5
    go_upto_region 2 with (fail)
    obtain ⟨g2, hgg2⟩ : ∃ g, g = w.heap.size + 1 := ⟨_, rfl⟩
    obtain ⟨g1, hgg1⟩ : ∃ g, g = w.heap.size := ⟨_, rfl⟩
    obtain ⟨ww1, hv1⟩ : ∃ x, x = (World.alloc (World.alloc w (.cells #[.bool p.src.v6, .int .u64 p.src.hi, .int .u64 p.src.lo, .bool p.dst.v6, .int .u64 p.dst.hi, .int .u64 p.dst.lo, .int .u8 p.proto, .int .u8 p.ttl, .string p.data] 30)) (.cells #[.int .u8 g.proto, .bool g.src.v6, .int .u64 g.src.hi, .int .u64 g.src.lo, .bool g.dst.v6, .int .u64 g.dst.hi, .int .u64 g.dst.lo, .int .u16 g.fp, .int .u16 g.tp] 39)) := ⟨_, rfl⟩
    have HK1 : Hid (KL [(g2, .cells #[.int .u8 g.proto, .bool g.src.v6, .int .u64 g.src.hi, .int .u64 g.src.lo, .bool g.dst.v6, .int .u64 g.dst.hi, .int .u64 g.dst.lo, .int .u16 g.fp, .int .u16 g.tp] 39), (g1, .cells #[.bool p.src.v6, .int .u64 p.src.hi, .int .u64 p.src.lo, .bool p.dst.v6, .int .u64 p.dst.hi, .int .u64 p.dst.lo, .int .u8 p.proto, .int .u8 p.ttl, .string p.data] 30)] w ww1) := by rw [hv1, hgg1, hgg2]; exact Lib.hid (HK0.out.made2 (.cells #[.bool p.src.v6, .int .u64 p.src.hi, .int .u64 p.src.lo, .bool p.dst.v6, .int .u64 p.dst.hi, .int .u64 p.dst.lo, .int .u8 p.proto, .int .u8 p.ttl, .string p.data] 30) (.cells #[.int .u8 g.proto, .bool g.src.v6, .int .u64 g.src.hi, .int .u64 g.src.lo, .bool g.dst.v6, .int .u64 g.dst.hi, .int .u64 g.dst.lo, .int .u16 g.fp, .int .u16 g.tp] 39))
    rw [← hv1]
    rw [← hgg2]
    rw [← hgg1]
    clear hv1 hgg1 hgg2
    go_wp2_with fail
    refine (works_any _).mono ?_
    rintro e ww2 ⟨rfl, B1⟩
    simp only []
    have HK2 := Lib.hid (HK1.out.call B1)
    clear B1
    go_wp2_with fail
    go_ret
    exact ⟨rfl, HK2.out.2⟩

end Go.Proofs.Ytgonakpoflacoaa
