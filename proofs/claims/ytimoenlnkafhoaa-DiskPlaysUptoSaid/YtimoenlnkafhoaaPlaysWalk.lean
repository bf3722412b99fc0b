/-
  DiskPlays' walk: what stands on a disk.
-/
import Derived.Test.YtimoenlnkafhoaaFrom
set_option linter.unusedVariables false
namespace Go.Proofs.Ytimoenlnkafhoaa
open Go.ChangeShapes Go.WideShapes Go.ChangeAt Go.RowKit
open Go.Deep

theorem four_copy {B : Nat} {wr w1 w2 w3 w5 : World} {d r d2 n : Nat} {v v2 : Value} {x : DS} (h : Both wr d v r x) (hB : B ≤ d) (hBv : ∀ g, v.ownBlock = some g → B ≤ g) (hW : B ≤ wr.heap.size)
    (R1 : RefAt w1 wr.heap.size x.copy) (B1 : Below wr.heap.size wr w1) (C2 : DiskV w2 d2 v2 x.copy) (B2 : Below w1.heap.size w1 w2) (hd2 : w1.heap.size ≤ d2) (hv2 : ∀ g, v2.ownBlock = some g → w1.heap.size ≤ g)
    (R3 : RefAt w3 w2.heap.size x.copy) (B3 : Below w2.heap.size w2 w3) (D5 : Did d v.ownBlock (w3.drewN n) w5 (x.fails 0 0)) :
    ∃ v', Four B w5 d v' wr.heap.size x.copy d2 v2 w2.heap.size x.copy ∧ Below B wr w5 := by
  obtain ⟨v', g5, t5, f5⟩ := D5
  have f5 : Fr d v.ownBlock w3 w5 := ⟨f5.os, f5.tape, f5.output, f5.size, f5.block⟩
  have t5 : ∀ g, v'.ownBlock = some g → v.ownBlock = some g ∨ w3.heap.size ≤ g := t5
  have s1 := B1.size
  have s2 := B2.size
  have s3 := B3.size
  have l0 := h.disk.lt
  have l1 := R1.lt
  have l2 := C2.lt
  have l3 := R3.lt
  have lv : ∀ g, v.ownBlock = some g → g < wr.heap.size := fun g hg => h.disk.row_lt hg
  have lv2 : ∀ g, v2.ownBlock = some g → g < w2.heap.size := fun g hg => C2.row_lt hg
  have b03 : Below wr.heap.size wr w3 := (B1.trans (B2.mono s1)).trans (B3.mono (Nat.le_trans s1 s2))
  have r1 : RefAt w3 wr.heap.size x.copy := (R1.more B2).keep (B3.block _ (by omega))
  have c2 : DiskV w3 d2 v2 x.copy := C2.more B3
  have e1 : RefAt w5 wr.heap.size x.copy := r1.other f5 (by omega) (fun e => by have := lv _ e.symm; omega)
  have e2 : DiskV w5 d2 v2 x.copy := c2.other f5 (by omega) (fun e => by have := lv _ e.symm; omega) (fun e => by have := hv2 _ e; omega) (fun g hg e => by have := lv _ e; have := hv2 _ hg; omega)
  have e3 : RefAt w5 w2.heap.size x.copy := R3.other f5 (by omega) (fun e => by have := lv _ e.symm; omega)
  have k : ∀ g, v'.ownBlock = some g → g < wr.heap.size ∨ w3.heap.size ≤ g := fun g hg => (t5 g hg).imp (lv g) id
  have kB : ∀ g, v'.ownBlock = some g → B ≤ g := fun g hg => (t5 g hg).elim (hBv g) (fun h => by omega)
  refine ⟨v', ⟨⟨g5, e1, by omega, fun e => by have := k _ e; omega⟩, ⟨e2, e3, by omega, fun e => by have := lv2 _ e; omega⟩, by omega, by omega, by omega, by omega, fun e => by have := k _ e; omega, fun e => by have := k _ e; omega, fun e => by have := hv2 _ e; omega, fun e => by have := hv2 _ e; omega,
    fun g hg e => by have := k _ hg; have := hv2 _ e; have := lv2 _ e; omega, hB, hW, by omega, by omega, kB, fun g hg => by have := hv2 _ hg; omega⟩, (b03.mono hW).trans (f5.below hB hBv (by omega))⟩

theorem read_q {d : Nat} {v : Value} {x : DS} {w : World} (h : DiskV w d v x) :
    Calls Try.prog 14 #[.pointer (some ⟨d, 0, none⟩)] w fun e w' => e = .returned (.string x.S) ∧ ∃ n, w' = w.drewN n :=
  (read_any d v x w h).mono fun e w' h => ⟨h.1, 0, h.2.symm⟩
theorem size_q {d : Nat} {v : Value} {x : DS} {w : World} (h : DiskV w d v x) :
    Calls Try.prog 25 #[.pointer (some ⟨d, 0, none⟩)] w fun e w' => e = .returned (.int .i64 x.S.size) ∧ ∃ n, w' = w.drewN n :=
  (size_any d v x w h).mono fun e w' h => ⟨h.1, 0, h.2.symm⟩
theorem left_q {d : Nat} {v : Value} {x : DS} {w : World} {n : Nat} (h : DiskV w d v x) (hn : x.room = n) :
    Calls Try.prog 26 #[.pointer (some ⟨d, 0, none⟩)] w fun e w' => e = .returned (.int .i64 ((n : Int) - x.S.size)) ∧ ∃ n, w' = w.drewN n := by
  subst hn; exact left_any d v x w h

set_option maxHeartbeats 4000000 in
set_option maxRecDepth 100000 in
theorem plays_walk (n : Nat) (ao : Option Addr) (cap : Nat) (l : List St) (w : World) (hn : n ≤ 1048576) (H : Hid (StepsAt w ao l)) (hl : l.length ≤ 300) (hs : sumS l ≤ 65536) :
    Calls Try.prog 6 #[.int .i64 n, .slice ao l.length cap] w fun e w' => e = .returned (.bool true) ∧ Below w.heap.size w w' := by
  have HH := Lib.hid (show heavyB l = false from decide_eq_false (by omega))
  go_enter Try.func6, Try.ntmps6
  go_wp2_with fail
  refine (heavy_any ao cap l w H (by unfold maxLen; omega) (by omega)).mono ?_
  rintro e w0 ⟨rfl, rfl⟩
  rw [HH.out]
  simp only []
  go_wp2_with fail
  refine (new_any n _ hn).mono ?_
  rintro e w1 ⟨rfl, h1, b1⟩
  simp only []
  go_wp2_with fail
  refine (may_any n w1).mono ?_
  rintro e w0 ⟨rfl, rfl⟩
  rw [decide_eq_true (show (0 : Int) ≤ n ∧ (n : Int) ≤ 1048576 by omega)]
  simp only []
  go_wp2_with fail
  have F0 : Both (w1.alloc (.cells #[.int .i64 n, .string .empty, .int .i64 0, .int .i64 0, .int .i64 0] 43)) w.heap.size (.slice none 0 0) w1.heap.size (DS.empty n) :=
    ⟨h1.alloc _, ⟨heap_alloc_new w1 _, empty_ok n hn⟩, by have := h1.lt; omega, by simp [Value.ownBlock]⟩
  have B0 : Below w.heap.size w (w1.alloc (.cells #[.int .i64 n, .string .empty, .int .i64 0, .int .i64 0, .int .i64 0] 43)) := b1.alloc b1.size _
  have sz1 := b1.size
  obtain ⟨D, hD⟩ : ∃ D, D = w.heap.size := ⟨_, rfl⟩
  obtain ⟨R, hR⟩ : ∃ R, R = w1.heap.size := ⟨_, rfl⟩
  obtain ⟨w4, hw4⟩ : ∃ w4, w4 = w1.alloc (.cells #[.int .i64 n, .string .empty, .int .i64 0, .int .i64 0, .int .i64 0] 43) := ⟨_, rfl⟩
  have hw5 : w1.alloc (.cells #[.int .i64 n, .string { data := #[] }, .int .i64 0, .int .i64 0, .int .i64 0] 43) = w4 := hw4.symm
  rw [← hw4] at F0 B0
  rw [← hD] at F0 B0 ⊢
  rw [← hR] at F0
  rw [← hR]
  first | rw [← hw4] | rw [hw5]
  have hDR : D ≤ R := by omega
  have HD := Lib.hid hD
  clear b1 hD hR hw4 hw5 sz1 h1
  go_loopw [5, 7, 8] (fun pd pr i wr => ∃ k : Nat, k ≤ l.length ∧ i = .int .i64 k ∧ ∃ (x : DS) (v : Value) (d r : Nat), pd = .pointer (some ⟨d, 0, none⟩) ∧ pr = .pointer (some ⟨r, 0, none⟩) ∧ Both wr d v r x ∧ x.room = n ∧ D ≤ d ∧ D ≤ r ∧ (∀ g, v.ownBlock = some g → D ≤ g) ∧ Below D w wr) (fun _ _ i _ => l.length - (intOf i).toNat)
  case atStart => exact ⟨0, Nat.zero_le _, rfl, _, _, _, _, rfl, rfl, F0, rfl, Nat.le_refl _, hDR, fun g hg => by simp [Value.ownBlock] at hg, B0⟩
  case round =>
    obtain ⟨k, hk, rfl, x, v, d, r, rfl, rfl, F, hx, hd, hr, hv, hb⟩ := hrel
    clear F0 B0 hDR
    by_cases hlt : k < l.length
    · obtain ⟨b, off, hal, hbw, q0, q1, q2, q3, hu⟩ := H.out k hlt
      subst hal
      have hbw' : b < D := by rw [HD.out]; exact hbw
      have q0 := (hb.cell (p := ⟨b, _, none⟩) hbw').trans q0
      have q1 := (hb.cell (p := ⟨b, _, none⟩) hbw').trans q1
      have q2 := (hb.cell (p := ⟨b, _, none⟩) hbw').trans q2
      have q3 := (hb.cell (p := ⟨b, _, none⟩) hbw').trans q3
      have hSz : l[k].S.size ≤ 65536 := by
        have h2 := sumS_step l k hlt
        have h3 := sumS_take l (k + 1)
        omega
      obtain ⟨t, ht⟩ : ∃ t, t = l[k] := ⟨_, rfl⟩
      rw [← ht] at q0 q1 q2 q3 hu hSz
      clear ht
      have hBW : D ≤ wr.heap.size := by have := hb.size; rw [HD.out]; omega
      have FF := Lib.hid F
      clear F
      by_cases ho : t.o = 5
      · have e5 : (t.o == 5) = true := beq_iff_eq.2 ho
        clear ho
        go_wp2_with fail
        refine (rcopy_any r x wr FF.out.ref).mono ?_
        rintro e w1 ⟨rfl, R1, B1⟩
        simp only []
        go_wp2_with fail
        refine (copy_any d v x w1 (FF.out.disk.more B1)).mono ?_
        rintro e w2 ⟨d2, v2, rfl, C2, B2, hd2, hv2⟩
        simp only []
        go_wp2_with fail
        have R2 : RefAt w2 r x := (FF.out.ref.more B1).more B2
        refine (rcopy_any r x w2 R2).mono ?_
        rintro e w3 ⟨rfl, R3, B3⟩
        simp only []
        go_wp2_with fail
        have K3 : DiskV w3 d v x := ((FF.out.disk.more B1).more B2).more B3
        refine (same_any (C2.more B3) K3).mono ?_
        rintro e w4 ⟨rfl, n4, rfl⟩
        rw [same_copy]
        simp only []
        go_wp2_with fail
        refine (fails_any d v x 0 0 _ (K3.drewN n4) (by omega) (by omega)).mono ?_
        rintro e w5 ⟨rfl, D5⟩
        rw [show DS.failsE 0 0 = 0 from rfl]
        simp only []
        obtain ⟨v', F5, B5⟩ := four_copy FF.out hd hv hBW R1 B1 C2 B2 hd2 hv2 R3 B3 D5
        obtain ⟨q, hq⟩ : ∃ q, q = wr.heap.size := ⟨_, rfl⟩
        obtain ⟨r2, hr2⟩ : ∃ q, q = w2.heap.size := ⟨_, rfl⟩
        rw [← hq, ← hr2] at F5
        rw [← hq, ← hr2]
        have B6 := hb.trans B5
        clear R1 B1 C2 B2 hd2 hv2 R2 R3 B3 K3 D5 hq hr2 FF hb q0 q1 q2 q3 B5
        have F6 := Lib.hid F5
        clear F5
        go_wp2_with fail
        refine (append_any d v' x.copy _ w5 F6.out.one.disk (by decide)).mono ?_
        rintro e w6 ⟨rfl, D6⟩
        simp only []
        go_wp2_with fail
        refine (rput_any q x.copy _ w6 (did_ref F6.out.one D6) (by decide)).mono ?_
        rintro e w7 ⟨rfl, R7⟩
        simp only []
        have S7 := stepped F6.out.one D6 (fun _ => R7)
        obtain ⟨v7, F7, B7⟩ := F6.out.step (by rw [HD.out]; have := B6.size; omega) S7
        have B7 := B6.trans B7
        clear F6 D6 R7 S7 B6
        go_wp2_with fail
        have HR1 := Lib.hid (show (x.copy.put { data := #[120, 121] }).room = n by rw [put_room]; exact hx)
        have HR2 := Lib.hid (show x.copy.room = n from hx)
        obtain ⟨y1, hy1⟩ : ∃ y, y = x.copy.put { data := #[120, 121] } := ⟨_, rfl⟩
        obtain ⟨y2, hy2⟩ : ∃ y, y = x.copy := ⟨_, rfl⟩
        rw [← hy1] at F7 HR1
        rw [← hy2] at F7 HR2
        clear hy1 hy2 hx
        have F8 := Lib.hid F7
        clear F7
        refine wp_region_any (by kernel_rfl) ?_
        change wpAny _ _ _ _ _ _ _ (World.drew _)
        refine wpAny_take (i := 0) (v := ?_) rfl (by kernel_rfl) (by kernel_rfl) (by kernel_rfl) (fun _ _ _ h => h) (Or.inl ⟨by rfl, ?_⟩) ?_
        rotate_left 1
        · (intro w; go_simp; try (with_reducible rfl))
        refine wpAny_take (i := 2) (v := ?_) rfl (by kernel_rfl) (by kernel_rfl) (by kernel_rfl) (fun _ _ _ h => h) (Or.inl ⟨by rfl, ?_⟩) ?_
        rotate_left 1
        · (intro w; go_simp; try (with_reducible rfl))
        refine wpAny_ready (rs := [1]) (by kernel_rfl) (by simp) ?_
        refine AllReady.cons rfl (fun K hK => ?_) AllReady.nil
        go_simp
        refine (append_any d2 v2 y2 _ w7.drew F8.out.two.disk.drew (by decide)).mono ?_
        rintro e w8 ⟨rfl, D8⟩
        simp only []
        refine hK _ _ ?_
        clear hK K
        try simp only [Act.put, List.setIfInBounds_toArray, List.set_cons_zero, List.set_cons_succ]
        refine wpAny_ready (rs := [3]) (by kernel_rfl) (by simp) ?_
        refine AllReady.cons rfl (fun K hK => ?_) AllReady.nil
        go_simp
        refine (rput_any r2 y2 _ w8 (did_ref F8.out.two.drew D8) (by decide)).mono ?_
        rintro e w9 ⟨rfl, R9⟩
        simp only []
        refine hK _ _ ?_
        clear hK K
        try simp only [Act.put, List.setIfInBounds_toArray, List.set_cons_zero, List.set_cons_succ]
        refine wpAny_ready (rs := [4]) (by kernel_rfl) (by simp) ?_
        refine AllReady.cons rfl (fun K hK => ?_) AllReady.nil
        go_simp
        refine hK _ _ ?_
        clear hK K
        try simp only [Act.put, List.setIfInBounds_toArray, List.set_cons_zero, List.set_cons_succ]
        refine wpAny_ready (rs := [5]) (by kernel_rfl) (by simp) ?_
        refine AllReady.cons rfl (fun K hK => ?_) AllReady.nil
        go_simp
        refine hK _ _ ?_
        clear hK K
        try simp only [Act.put, List.setIfInBounds_toArray, List.set_cons_zero, List.set_cons_succ]
        have S9 := stepped F8.out.two.drew D8 (fun _ => R9)
        obtain ⟨v9, F9, B9⟩ := F8.out.swap.step (by rw [HD.out]; have := B7.size; omega) S9.undrew
        have B9 := B7.trans B9
        have HR3 := Lib.hid (show (y2.put { data := #[122] }).room = n by rw [put_room]; exact HR2.out)
        obtain ⟨z, hz⟩ : ∃ y, y = y2.put { data := #[122] } := ⟨_, rfl⟩
        rw [← hz] at F9 HR3
        clear hz F8 D8 R9 S9 B7
        have rc1 := F9.one.ref.c1
        have rc2 := F9.two.ref.c1
        have F10 := Lib.hid F9
        clear F9
        refine wpAny_quiet_from 6 (by kernel_rfl) rfl (by kernel_rfl) ?_
        simp only [List.drop_succ_cons, List.drop_zero]
        repeat (go_big_quiet_step (first | (go_at_call 14; exact Calls.quiet_of (read_q (F10.out.one.disk.drewN _)))))
        refine wpQuiet_nil ?_
        intro _ hw'
        obtain ⟨nq, hw''⟩ := hw'
        subst hw''
        have F11 := F10.out.drewN nq
        have B11 := belowN B9 nq
        obtain ⟨w10, hw10⟩ : ∃ w10, w10 = w9.drewN nq := ⟨_, rfl⟩
        rw [← hw10] at F11 B11 ⊢
        clear hw10 F10 B9 rc1 rc2
        have rc2 := F11.two.ref.c1
        have F12 := Lib.hid F11
        clear F11
        go_wp2_with fail
        go_quiet (first | (go_at_call 14; exact Calls.quiet_of (read_q (F12.out.two.disk.drewN _))))
        go_wp2_with fail
        go_roundw
        case rel => exact ⟨k + 1, by omega, by go_num, z, v9, d2, r2, rfl, rfl, F12.out.one.drewN _, HR3.out, F12.out.bd, F12.out.br, F12.out.bv, belowN B11 _⟩
        case measure => simp [intOf]; omega
      · have e5 : (t.o == 5) = false := beq_eq_false_iff_ne.2 ho
        clear ho
        go_wp2_with fail
        refine wp_region_any (by kernel_rfl) ?_
        change wpAny _ _ _ _ _ _ _ (World.drew _)
        refine wpAny_take (i := 0) (v := ?_) rfl (by kernel_rfl) (by kernel_rfl) (by kernel_rfl) (fun _ _ _ h => h) (Or.inl ⟨by rfl, ?_⟩) ?_
        rotate_left 1
        · (intro w; go_simp; try (with_reducible rfl))
        refine wpAny_take (i := 1) (v := ?_) rfl (by kernel_rfl) (by kernel_rfl) (by kernel_rfl) (fun _ _ _ h => h) (Or.inl ⟨by rfl, ?_⟩) ?_
        rotate_left 1
        · (intro w; go_simp; try (with_reducible rfl))
        refine wpAny_take (i := 2) (v := ?_) rfl (by kernel_rfl) (by kernel_rfl) (by kernel_rfl) (fun _ _ _ h => h) (Or.inl ⟨by rfl, ?_⟩) ?_
        rotate_left 1
        · (intro w; go_simp; try (with_reducible rfl))
        refine wpAny_take (i := 3) (v := ?_) rfl (by kernel_rfl) (by kernel_rfl) (by kernel_rfl) (fun _ _ _ h => h) (Or.inl ⟨by rfl, ?_⟩) ?_
        rotate_left 1
        · (intro w; go_simp; try (with_reducible rfl))
        refine wpAny_take (i := 4) (v := ?_) rfl (by kernel_rfl) (by kernel_rfl) (by kernel_rfl) (fun _ _ _ h => h) (Or.inl ⟨by rfl, ?_⟩) ?_
        rotate_left 1
        · (intro w; go_simp; try (with_reducible rfl))
        refine wpAny_ready (rs := [5]) (by kernel_rfl) (by simp) ?_
        refine AllReady.cons rfl (fun K hK => ?_) AllReady.nil
        go_simp
        refine hK _ _ ?_
        clear hK K
        try simp only [Act.put, List.setIfInBounds_toArray, List.set_cons_zero, List.set_cons_succ]
        refine wpAny_ready (rs := [6]) (by kernel_rfl) (by simp) ?_
        refine AllReady.cons rfl (fun K hK => ?_) AllReady.nil
        go_simp
        refine (step_any t FF.out.drew hu hSz).mono ?_
        rintro e w5 ⟨rfl, S5⟩
        simp only []
        refine hK _ _ ?_
        clear hK K
        try simp only [Act.put, List.setIfInBounds_toArray, List.set_cons_zero, List.set_cons_succ]
        refine wpAny_ready (rs := [7]) (by kernel_rfl) (by simp) ?_
        refine AllReady.cons rfl (fun K hK => ?_) AllReady.nil
        go_simp
        refine hK _ _ ?_
        clear hK K
        try simp only [Act.put, List.setIfInBounds_toArray, List.set_cons_zero, List.set_cons_succ]
        refine wpAny_ready (rs := [8]) (by kernel_rfl) (by simp) ?_
        refine AllReady.cons rfl (fun K hK => ?_) AllReady.nil
        go_simp
        refine hK _ _ ?_
        clear hK K
        try simp only [Act.put, List.setIfInBounds_toArray, List.set_cons_zero, List.set_cons_succ]
        obtain ⟨v5, F5, t5, f5⟩ := S5.undrew
        have hv5 : ∀ g, v5.ownBlock = some g → D ≤ g := fun g hg => (t5 g hg).elim (hv g) (fun h => by omega)
        have B5 := hb.trans (f5.below hd hv hr hBW)
        have hz : (stepD x t).room = n := (stepD_room x t).trans hx
        obtain ⟨z, hzz⟩ : ∃ z, z = stepD x t := ⟨_, rfl⟩
        rw [← hzz] at F5 hz
        clear hzz S5 t5 f5 FF hv q0 q1 q2 q3
        have HR3 := Lib.hid hz
        have zs := F5.disk.ok.size
        have zk := F5.disk.ok.k
        rw [hz] at zs
        clear hz hx
        have s1 : IntKind.i64.wrap ((z.S.size : Int) - (z.k : Int)) = (z.S.size : Int) - (z.k : Int) := IntWalk.i64_in _ (by omega)
        have s2 : IntKind.i64.wrap ((n : Int) - (z.S.size : Int)) = (n : Int) - (z.S.size : Int) := IntWalk.i64_in _ (by omega)
        have c1 := F5.ref.c1
        have c2 := F5.ref.c2
        have F6 := Lib.hid F5
        clear F5
        refine wpAny_quiet_from 9 (by kernel_rfl) rfl (by kernel_rfl) ?_
        simp only [List.drop_succ_cons, List.drop_zero]
        repeat (go_big_quiet_step (first | (go_at_call 14; exact Calls.quiet_of (read_q (F6.out.disk.drewN _))) | (go_at_call 25; exact Calls.quiet_of (size_q (F6.out.disk.drewN _))) | (go_at_call 16; exact Calls.quiet_of (loose_any _ _ _ _ (F6.out.disk.drewN _))) | (go_at_call 26; exact Calls.quiet_of (left_q (F6.out.disk.drewN _) HR3.out))))
        refine wpQuiet_nil ?_
        intro _ hw'
        obtain ⟨nq, hw''⟩ := hw'
        subst hw''
        go_wp2_with fail
        go_roundw
        case rel => exact ⟨k + 1, by omega, by go_num, z, v5, d, r, rfl, rfl, F6.out.drewN _, HR3.out, hd, hr, hv5, belowN B5 _⟩
        case measure => simp [intOf]; omega
    · obtain ⟨w3, rfl⟩ : ∃ w3 : World, w3 = wr := ⟨_, rfl⟩
      go_wp2_with fail
      refine (works_any _).mono ?_
      rintro e w6 ⟨rfl, b6⟩
      simp only []
      go_wp2_with fail
      go_ret
      exact ⟨rfl, by rw [← HD.out]; exact hb.trans (b6.mono (by rw [HD.out]; have := hb.size; exact this))⟩

end Go.Proofs.Ytimoenlnkafhoaa
