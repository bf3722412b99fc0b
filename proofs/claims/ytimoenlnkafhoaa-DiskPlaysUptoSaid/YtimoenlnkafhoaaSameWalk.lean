/-
  DiskSame's walk: when two disks are the same.
-/
import Derived.Test.YtimoenlnkafhoaaStep
set_option linter.unusedVariables false
namespace Go.Proofs.Ytimoenlnkafhoaa
open Go.ChangeShapes Go.WideShapes Go.ChangeAt Go.RowKit
open Go.Deep

/-- Two pairs, apart from one another. -/
structure Four (B : Nat) (w : World) (d : Nat) (v : Value) (r : Nat) (x : DS) (f : Nat) (u : Value) (q : Nat) (y : DS) : Prop where
  one : Both w d v r x
  two : Both w f u q y
  df : d ≠ f
  dq : d ≠ q
  rf : r ≠ f
  rq : r ≠ q
  vf : v.ownBlock ≠ some f
  vq : v.ownBlock ≠ some q
  ud : u.ownBlock ≠ some d
  ur : u.ownBlock ≠ some r
  uv : ∀ g, v.ownBlock = some g → u.ownBlock ≠ some g
  bd : B ≤ d
  br : B ≤ r
  bf : B ≤ f
  bq : B ≤ q
  bv : ∀ g, v.ownBlock = some g → B ≤ g
  bu : ∀ g, u.ownBlock = some g → B ≤ g

theorem Four.swap {B : Nat} {w : World} {d r f q : Nat} {v u : Value} {x y : DS} (h : Four B w d v r x f u q y) : Four B w f u q y d v r x :=
  ⟨h.two, h.one, h.df.symm, h.rf.symm, h.dq.symm, h.rq.symm, h.ud, h.ur, h.vf, h.vq, fun g hg e => h.uv g e hg, h.bf, h.bq, h.bd, h.br, h.bu, h.bv⟩
theorem Four.step {B : Nat} {w w' : World} {d r f q : Nat} {v u : Value} {x y z : DS} (h : Four B w d v r x f u q y) (hB : B ≤ w.heap.size) (hs : Stepped d v.ownBlock r w w' z) :
    ∃ v', Four B w' d v' r z f u q y ∧ Below B w w' := by
  obtain ⟨v', g1, t1, f1⟩ := hs
  have hd := h.one.disk.lt
  have hf := h.two.disk.lt
  have hq := h.two.ref.lt
  have n1 : v'.ownBlock ≠ some f := fun e => by
    rcases t1 f e with k | k
    · exact h.vf k
    · omega
  have n2 : v'.ownBlock ≠ some q := fun e => by
    rcases t1 q e with k | k
    · exact h.vq k
    · omega
  refine ⟨v', ⟨g1, h.two.other f1 h.df.symm h.rf.symm (fun e => h.vf e.symm) h.dq.symm h.rq.symm (fun e => h.vq e.symm) (fun g hg => ⟨fun e => h.ud (by rw [hg, e]), fun e => h.ur (by rw [hg, e]), fun e => h.uv g e.symm hg⟩), h.df, h.dq, h.rf, h.rq, n1, n2, h.ud, h.ur, ?_, h.bd, h.br, h.bf, h.bq, ?_, h.bu⟩, f1.below h.bd h.bv h.br hB⟩
  · intro g hg e
    rcases t1 g hg with k | k
    · exact h.uv g k e
    · have := h.two.disk.row_lt e; omega
  · intro g hg
    rcases t1 g hg with k | k
    · exact h.bv g k
    · omega
theorem Four.drewN {B : Nat} {w : World} {d r f q : Nat} {v u : Value} {x y : DS} (h : Four B w d v r x f u q y) (n : Nat) : Four B (w.drewN n) d v r x f u q y :=
  ⟨h.one.drewN n, h.two.drewN n, h.df, h.dq, h.rf, h.rq, h.vf, h.vq, h.ud, h.ur, h.uv, h.bd, h.br, h.bf, h.bq, h.bv, h.bu⟩
theorem belowN {B : Nat} {w w' : World} (h : Below B w w') (n : Nat) : Below B w (w'.drewN n) := ⟨h.os, h.tape, h.output, h.size, h.block⟩

theorem empty_ok (n : Nat) (h : n ≤ 1048576) : (DS.empty n).Ok := ⟨Nat.zero_le _, Nat.zero_le _, h, Nat.zero_le _, Nat.zero_le _⟩

theorem four_start {w w1 w2 : World} (n m : Nat) (hn : n ≤ 1048576) (hm : m ≤ 1048576) (h1 : DiskV w1 w.heap.size (.slice none 0 0) (DS.empty n)) (b1 : Below w.heap.size w w1)
    (h2 : DiskV w2 w1.heap.size (.slice none 0 0) (DS.empty m)) (b2 : Below w1.heap.size w1 w2) :
    Four w.heap.size ((w2.alloc (.cells #[.int .i64 n, .string .empty, .int .i64 0, .int .i64 0, .int .i64 0] 43)).alloc (.cells #[.int .i64 m, .string .empty, .int .i64 0, .int .i64 0, .int .i64 0] 43)) w.heap.size (.slice none 0 0) w2.heap.size (DS.empty n) w1.heap.size (.slice none 0 0) (w2.heap.size + 1) (DS.empty m) ∧
      Below w.heap.size w ((w2.alloc (.cells #[.int .i64 n, .string .empty, .int .i64 0, .int .i64 0, .int .i64 0] 43)).alloc (.cells #[.int .i64 m, .string .empty, .int .i64 0, .int .i64 0, .int .i64 0] 43)) := by
  have l1 := h1.lt
  have l2 := h2.lt
  have s1 := b1.size
  have s2 := b2.size
  have bb : Below w.heap.size w w2 := b1.trans (b2.mono s1)
  have k1 := (h1.more b2).alloc (.cells #[.int .i64 n, .string .empty, .int .i64 0, .int .i64 0, .int .i64 0] 43)
  have k2 := h2.alloc (.cells #[.int .i64 n, .string .empty, .int .i64 0, .int .i64 0, .int .i64 0] 43)
  have r1 : RefAt (w2.alloc (.cells #[.int .i64 n, .string .empty, .int .i64 0, .int .i64 0, .int .i64 0] 43)) w2.heap.size (DS.empty n) := ⟨heap_alloc_new w2 _, empty_ok n hn⟩
  have e : (w2.alloc (.cells #[.int .i64 n, .string .empty, .int .i64 0, .int .i64 0, .int .i64 0] 43)).heap.size = w2.heap.size + 1 := by simp
  have r2 : RefAt ((w2.alloc (.cells #[.int .i64 n, .string .empty, .int .i64 0, .int .i64 0, .int .i64 0] 43)).alloc (.cells #[.int .i64 m, .string .empty, .int .i64 0, .int .i64 0, .int .i64 0] 43)) (w2.heap.size + 1) (DS.empty m) := ⟨by rw [← e]; exact heap_alloc_new _ _, empty_ok m hm⟩
  have nn : ∀ d, (Value.slice none 0 0).ownBlock ≠ some d := fun d => by simp [Value.ownBlock]
  refine ⟨⟨⟨k1.alloc _, r1.alloc _, by omega, nn _⟩, ⟨k2.alloc _, r2, by omega, nn _⟩, by omega, by omega, by omega, by omega, nn _, nn _, nn _, nn _, fun g hg => absurd hg (nn g), Nat.le_refl _, by omega, by omega, by omega, fun g hg => absurd hg (nn g), fun g hg => absurd hg (nn g)⟩, (bb.alloc (by omega) _).alloc (by rw [e]; omega) _⟩

set_option maxHeartbeats 1000000 in
set_option maxRecDepth 100000 in
theorem same_walk (n m : Nat) (a1 a2 : Option Addr) (c1 c2 : Nat) (l1 l2 : List St) (w : World) (hn : n ≤ 1048576) (hm : m ≤ 1048576) (H1 : Hid (StepsAt w a1 l1)) (H2 : Hid (StepsAt w a2 l2)) (hl1 : l1.length ≤ 300) (hs1 : sumS l1 ≤ 65536) (hl2 : l2.length ≤ 300) (hs2 : sumS l2 ≤ 65536) :
    Calls Try.prog 5 #[.int .i64 n, .int .i64 m, .slice a1 l1.length c1, .slice a2 l2.length c2] w fun e w' => e = .returned (.bool true) ∧ Below w.heap.size w w' := by
  have HH1 := Lib.hid (show heavyB l1 = false from decide_eq_false (by omega))
  have HH2 := Lib.hid (show heavyB l2 = false from decide_eq_false (by omega))
  go_enter Try.func5, Try.ntmps5
  go_wp2_with fail
  refine (heavy_any a1 c1 l1 w H1 (by unfold maxLen; omega) (by omega)).mono ?_
  rintro e w0 ⟨rfl, rfl⟩
  rw [HH1.out]
  simp only []
  go_wp2_with fail
  refine (heavy_any a2 c2 l2 w H2 (by unfold maxLen; omega) (by omega)).mono ?_
  rintro e w0 ⟨rfl, rfl⟩
  rw [HH2.out]
  simp only []
  go_wp2_with fail
  refine (may_any n w).mono ?_
  rintro e w0 ⟨rfl, rfl⟩
  rw [decide_eq_true (show (0 : Int) ≤ n ∧ (n : Int) ≤ 1048576 by omega)]
  simp only []
  go_wp2_with fail
  refine (may_any m w).mono ?_
  rintro e w0 ⟨rfl, rfl⟩
  rw [decide_eq_true (show (0 : Int) ≤ m ∧ (m : Int) ≤ 1048576 by omega)]
  simp only []
  go_wp2_with fail
  refine (new_any n _ hn).mono ?_
  rintro e w1 ⟨rfl, h1, b1⟩
  simp only []
  go_wp2_with fail
  refine (new_any m _ hm).mono ?_
  rintro e w2 ⟨rfl, h2, b2⟩
  simp only []
  go_wp2_with fail
  obtain ⟨F0, B0⟩ := four_start n m hn hm h1 b1 h2 b2
  clear h1 h2
  have sz1 := b1.size
  have sz2 := b2.size
  obtain ⟨D, hD⟩ : ∃ D, D = w.heap.size := ⟨_, rfl⟩
  obtain ⟨R, hR⟩ : ∃ R, R = w2.heap.size := ⟨_, rfl⟩
  obtain ⟨E, hE⟩ : ∃ E, E = w1.heap.size := ⟨_, rfl⟩
  obtain ⟨Q, hQ⟩ : ∃ Q, Q = w2.heap.size + 1 := ⟨_, rfl⟩
  obtain ⟨w4, hw4⟩ : ∃ w4, w4 = (w2.alloc (.cells #[.int .i64 n, .string .empty, .int .i64 0, .int .i64 0, .int .i64 0] 43)).alloc (.cells #[.int .i64 m, .string .empty, .int .i64 0, .int .i64 0, .int .i64 0] 43) := ⟨_, rfl⟩
  have hw5 : (w2.alloc (.cells #[.int .i64 n, .string { data := #[] }, .int .i64 0, .int .i64 0, .int .i64 0] 43)).alloc (.cells #[.int .i64 m, .string { data := #[] }, .int .i64 0, .int .i64 0, .int .i64 0] 43) = w4 := hw4.symm
  rw [← hw4] at F0 B0
  rw [← hD] at F0 B0 ⊢
  rw [← hQ, ← hR, ← hE] at F0
  rw [← hR, ← hE]
  rw [← hR] at hQ
  rw [← hQ]
  first | rw [← hw4] | rw [hw5]
  have HD := Lib.hid hD
  clear b1 b2 hD hR hE hQ hw4 hw5 sz1 sz2
  go_loopw [15] (fun i wr => ∃ k : Nat, k ≤ l1.length ∧ i = .int .i64 k ∧ ∃ (x y : DS) (v u : Value), Four D wr D v R x E u Q y ∧ Below D w wr) (fun i _ => l1.length - (intOf i).toNat)
  case atStart => exact ⟨0, Nat.zero_le _, rfl, _, _, _, _, F0, B0⟩
  case round =>
    obtain ⟨k, hk, rfl, x, y, v, u, F, hb⟩ := hrel
    clear F0 B0
    by_cases hlt : k < l1.length
    · obtain ⟨b, off, hal, hbw, q0, q1, q2, q3, hu⟩ := H1.out k hlt
      subst hal
      have hbw' : b < D := by rw [HD.out]; exact hbw
      have q0 := (hb.cell (p := ⟨b, _, none⟩) hbw').trans q0
      have q1 := (hb.cell (p := ⟨b, _, none⟩) hbw').trans q1
      have q2 := (hb.cell (p := ⟨b, _, none⟩) hbw').trans q2
      have q3 := (hb.cell (p := ⟨b, _, none⟩) hbw').trans q3
      have hSz : l1[k].S.size ≤ 65536 := by
        have h2 := sumS_step l1 k hlt
        have h3 := sumS_take l1 (k + 1)
        omega
      obtain ⟨t, ht⟩ : ∃ t, t = l1[k] := ⟨_, rfl⟩
      rw [← ht] at q0 q1 q2 q3 hu hSz
      clear ht
      have FF := Lib.hid F
      clear F
      go_wp2_with fail
      refine (step_any t FF.out.one hu hSz).mono ?_
      rintro e w5 ⟨rfl, S5⟩
      simp only []
      obtain ⟨v', F5, B5⟩ := FF.out.step (by rw [HD.out]; have := hb.size; omega) S5
      have B6 := hb.trans B5
      clear S5
      go_wp2_with fail
      go_roundw
      case rel => exact ⟨k + 1, by omega, by go_num, _, _, _, _, F5, B6⟩
      case measure => simp [intOf]; omega
    · obtain ⟨wo, rfl⟩ : ∃ wo : World, wo = wr := ⟨_, rfl⟩
      go_wp2_with fail
      go_loopw [16] (fun i wr => ∃ k : Nat, k ≤ l2.length ∧ i = .int .i64 k ∧ ∃ (x y : DS) (v u : Value), Four D wr D v R x E u Q y ∧ Below D w wr) (fun i _ => l2.length - (intOf i).toNat)
      case atStart => exact ⟨0, Nat.zero_le _, rfl, _, _, _, _, F, hb⟩
      case round =>
        clear F hb
        obtain ⟨k, hk, rfl, x, y, v, u, F, hb⟩ := hrel
        by_cases hlt : k < l2.length
        · obtain ⟨b, off, hal, hbw, q0, q1, q2, q3, hu⟩ := H2.out k hlt
          subst hal
          have hbw' : b < D := by rw [HD.out]; exact hbw
          have q0 := (hb.cell (p := ⟨b, _, none⟩) hbw').trans q0
          have q1 := (hb.cell (p := ⟨b, _, none⟩) hbw').trans q1
          have q2 := (hb.cell (p := ⟨b, _, none⟩) hbw').trans q2
          have q3 := (hb.cell (p := ⟨b, _, none⟩) hbw').trans q3
          have hSz : l2[k].S.size ≤ 65536 := by
            have h2 := sumS_step l2 k hlt
            have h3 := sumS_take l2 (k + 1)
            omega
          obtain ⟨t, ht⟩ : ∃ t, t = l2[k] := ⟨_, rfl⟩
          rw [← ht] at q0 q1 q2 q3 hu hSz
          clear ht
          have FF := Lib.hid F
          clear F
          go_wp2_with fail
          refine (step_any t FF.out.two hu hSz).mono ?_
          rintro e w5 ⟨rfl, S5⟩
          simp only []
          obtain ⟨v', F5, B5⟩ := FF.out.swap.step (by rw [HD.out]; have := hb.size; omega) S5
          have B6 := hb.trans B5
          clear S5
          go_wp2_with fail
          go_roundw
          case rel => exact ⟨k + 1, by omega, by go_num, _, _, _, _, F5.swap, B6⟩
          case measure => simp [intOf]; omega
        · obtain ⟨w6, rfl⟩ : ∃ w6 : World, w6 = wr := ⟨_, rfl⟩
          go_wp2_with fail
          refine (same_any F.one.disk F.two.disk).mono ?_
          rintro e w7 ⟨rfl, n1, rfl⟩
          simp only []
          have F7 := F.drewN n1
          have B7 := belowN hb n1
          obtain ⟨w7, hw7⟩ : ∃ w7, w7 = w6.drewN n1 := ⟨_, rfl⟩
          rw [← hw7] at F7 B7 ⊢
          clear hw7 F hb
          go_wp2_with fail
          refine (rsame_any F7.one.ref F7.two.ref).mono ?_
          rintro e w8 ⟨rfl, n2, rfl⟩
          simp only []
          have B8 := belowN B7 n2
          obtain ⟨w8, hw8⟩ : ∃ w8, w8 = w7.drewN n2 := ⟨_, rfl⟩
          rw [← hw8] at B8 ⊢
          clear hw8 F7 B7
          go_wp2_with fail
          refine (same_none D _).mono ?_
          rintro e w9 ⟨rfl, n3, rfl⟩
          simp only []
          have B9 := belowN B8 n3
          obtain ⟨w9, hw9⟩ : ∃ w9, w9 = w8.drewN n3 := ⟨_, rfl⟩
          rw [← hw9] at B9 ⊢
          clear hw9 B8
          go_wp2_with fail
          refine (works_any _).mono ?_
          rintro e w10 ⟨rfl, b10⟩
          simp only []
          go_wp2_with fail
          go_ret
          exact ⟨rfl, by rw [← HD.out]; exact B9.trans (b10.mono (by rw [HD.out]; have := B9.size; omega))⟩

end Go.Proofs.Ytimoenlnkafhoaa
