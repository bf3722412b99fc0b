/-
  DiskFails' walk: what fails changes nothing, and just the call of the number fails that was told.
-/
import Derived.Test.YtimoenlnkafhoaaKeepsWalk
set_option linter.unusedVariables false
namespace Go.Proofs.Ytimoenlnkafhoaa
open Go.ChangeShapes Go.WideShapes Go.ChangeAt Go.RowKit
open Go.Deep

theorem put_due (x : DS) (t : ByteArray) (h : x.a = 1) : x.putE t = 230 ∧ (x.put t).S = x.S ∧ (x.put t).k = x.k ∧ (x.put t).a = x.a - 1 ∧ (x.put t).s = x.s := by
  have he : x.putE t = 230 := if_pos h
  refine ⟨he, ?_⟩
  unfold DS.put
  rw [if_neg (by rw [he]; decide)]
  exact ⟨rfl, rfl, rfl, rfl⟩
theorem put_full (x : DS) (t : ByteArray) (h : x.a ≠ 1) (hs : x.room < x.S.size + t.size) : x.putE t = 6 ∧ (x.put t).S = x.S ∧ (x.put t).k = x.k ∧ (x.put t).a = x.a - 1 ∧ (x.put t).s = x.s := by
  have he : x.putE t = 6 := by unfold DS.putE; rw [if_neg h, if_pos hs]
  refine ⟨he, ?_⟩
  unfold DS.put
  rw [if_neg (by rw [he]; decide)]
  exact ⟨rfl, rfl, rfl, rfl⟩
theorem put_fits (x : DS) (t : ByteArray) (h : x.a ≠ 1) (hs : ¬ x.room < x.S.size + t.size) : x.putE t = 0 ∧ (x.put t).a = x.a - 1 ∧ (x.put t).s = x.s := by
  have he : x.putE t = 0 := by unfold DS.putE; rw [if_neg h, if_neg hs]
  refine ⟨he, ?_⟩
  unfold DS.put
  rw [if_pos he]
  exact ⟨rfl, rfl⟩
theorem flush_due (x : DS) (h : x.s = 1) : x.flushE = 230 ∧ x.flush.S = x.S ∧ x.flush.k = x.k ∧ x.flush.a = x.a ∧ x.flush.s = x.s - 1 := by
  unfold DS.flush DS.flushE; rw [if_pos h, if_pos h]; exact ⟨rfl, rfl, rfl, rfl, rfl⟩
theorem flush_ok (x : DS) (h : x.s ≠ 1) : x.flushE = 0 ∧ x.flush.a = x.a ∧ x.flush.s = x.s - 1 := by
  unfold DS.flush DS.flushE; rw [if_neg h, if_neg h]; exact ⟨rfl, rfl, rfl⟩

theorem cut_at {d : Nat} {v : Value} {x : DS} {n : Int} {w : World} {e : Int} (he : x.cutE n = e) (h : DiskV w d v x) :
    Calls Try.prog 17 #[.pointer (some ⟨d, 0, none⟩), .int .i64 n] w fun r w' => r = .returned (.int .i64 e) ∧ Did d v.ownBlock w w' (x.cut n) := by
  subst he; exact cut_any d v x n w h
theorem fails_at {d : Nat} {v : Value} {x : DS} {n m : Int} {w : World} {e : Int} (he : DS.failsE n m = e) (h : DiskV w d v x) (hn : n ≤ 9223372036854775807) (hm : m ≤ 9223372036854775807) :
    Calls Try.prog 13 #[.pointer (some ⟨d, 0, none⟩), .int .i64 n, .int .i64 m] w fun r w' => r = .returned (.int .i64 e) ∧ Did d v.ownBlock w w' (x.fails n m) := by
  subst he; exact fails_any d v x n m w h hn hm

set_option maxHeartbeats 2000000 in
set_option maxRecDepth 100000 in
theorem fails_walk (room : Nat) (ao : Option Addr) (cap : Nat) (l : List St) (w : World) (hr : room ≤ 65535) (H : Hid (StepsAt w ao l)) (hl : l.length ≤ 300) (hs : sumS l ≤ 65536) :
    Calls Try.prog 4 #[.int .u16 room, .slice ao l.length cap] w fun e w' => e = .returned (.bool true) ∧ Below w.heap.size w w' := by
  have hh : heavyB l = false := decide_eq_false (by omega)
  have HH := Lib.hid hh
  clear hh
  go_enter Try.func4, Try.ntmps4
  go_wp2_with fail
  refine (heavy_any ao cap l w H (by unfold maxLen; omega) (by omega)).mono ?_
  rintro e w0 ⟨rfl, rfl⟩
  rw [HH.out]
  simp only []
  go_wp2_with fail
  refine (new_any room _ (by omega)).mono ?_
  rintro e w1 ⟨rfl, h1, b1⟩
  simp only []
  have t1 : ∀ g, (Value.slice none 0 0).ownBlock = some g → w.heap.size ≤ g := fun g hg => by simp [Value.ownBlock] at hg
  go_wp2_with fail
  go_loopw [7, 8, 9] (fun va vs i wr => ∃ k : Nat, k ≤ l.length ∧ i = .int .i64 k ∧ ∃ (x : DS) (v : Value), va = .int .i64 x.a ∧ vs = .int .i64 x.s ∧ DiskV wr w.heap.size v x ∧ (∀ g, v.ownBlock = some g → w.heap.size ≤ g) ∧ Below w.heap.size w wr) (fun _ _ i _ => l.length - (intOf i).toNat)
  case atStart => exact ⟨0, Nat.zero_le _, rfl, DS.empty room, _, rfl, rfl, h1, t1, b1⟩
  case round =>
    obtain ⟨k, hk, rfl, x, v, rfl, rfl, hd, hv, hb⟩ := hrel
    clear h1 b1 t1
    by_cases hlt : k < l.length
    · obtain ⟨b, off, hal, hbw, q0, q1, q2, q3, hu⟩ := H.out k hlt
      subst hal
      have q0 := (hb.cell (p := ⟨b, _, none⟩) hbw).trans q0
      have q1 := (hb.cell (p := ⟨b, _, none⟩) hbw).trans q1
      have q2 := (hb.cell (p := ⟨b, _, none⟩) hbw).trans q2
      have q3 := (hb.cell (p := ⟨b, _, none⟩) hbw).trans q3
      have hSz : l[k].S.size ≤ 65536 := by
        have h2 := sumS_step l k hlt
        have h3 := sumS_take l (k + 1)
        omega
      obtain ⟨u, hu2⟩ : ∃ u, u = l[k] := ⟨_, rfl⟩
      rw [← hu2] at q0 q1 q2 q3 hu hSz
      obtain ⟨o, S, n, m⟩ := u
      clear hu2
      simp only [] at q0 q1 q2 q3 hSz
      have n1 : wr.heap.size ≠ w.heap.size := Nat.ne_of_gt hd.lt
      have n2 : some wr.heap.size ≠ v.ownBlock := fun e => Nat.lt_irrefl _ (hd.row_lt e.symm)
      have ho := hd.alloc (.cells #[.int .i64 o, .string S, .int .i64 n, .int .i64 m] 31)
      have bo := hb.alloc hb.size (.cells #[.int .i64 o, .string S, .int .i64 n, .int .i64 m] 31)
      have p0 : (wr.alloc (.cells #[.int .i64 o, .string S, .int .i64 n, .int .i64 m] 31)).cell? ⟨wr.heap.size, 0, none⟩ = some (.int .i64 o) := by simp
      have p1 : (wr.alloc (.cells #[.int .i64 o, .string S, .int .i64 n, .int .i64 m] 31)).cell? ⟨wr.heap.size, 1, none⟩ = some (.string S) := by simp
      have p2 : (wr.alloc (.cells #[.int .i64 o, .string S, .int .i64 n, .int .i64 m] 31)).cell? ⟨wr.heap.size, 2, none⟩ = some (.int .i64 n) := by simp
      have p3 : (wr.alloc (.cells #[.int .i64 o, .string S, .int .i64 n, .int .i64 m] 31)).cell? ⟨wr.heap.size, 3, none⟩ = some (.int .i64 m) := by simp
      have PP := Lib.hid (And.intro p0 (And.intro p1 (And.intro p2 p3)))
      have HO := Lib.hid ho
      have BO := Lib.hid bo
      have N1 := Lib.hid n1
      have N2 := Lib.hid n2
      have ka := hd.ok.ka
      have ks := hd.ok.ks
      clear n1 n2 ho bo p0 p1 p2 p3 hd hb
      go_wp2_with fail
      refine (read_at (S := x.S) rfl HO.out).mono ?_
      rintro e w3 ⟨rfl, rfl⟩
      simp only []
      go_wp2_with fail
      refine (loose_at (e := (x.S.size : Int) - x.k) rfl HO.out).mono ?_
      rintro e w4 ⟨rfl, h4, f4⟩
      simp only []
      have c0 := f4.cell PP.out.1 N1.out N2.out
      have c1 := f4.cell PP.out.2.1 N1.out N2.out
      have c2 := f4.cell PP.out.2.2.1 N1.out N2.out
      have c3 := f4.cell PP.out.2.2.2 N1.out N2.out
      have b4 := BO.out.trans (f4.below (Nat.le_refl _) hv BO.out.size)
      have H4 := Lib.hid h4
      have B4 := Lib.hid b4
      have sz4 := b4.size
      clear h4 f4 b4
      go_wp2_with fail
      · by_cases hA : x.a < 1
        · by_cases hf : x.room < x.S.size + S.size
          · have F := Lib.hid (put_full x S (by omega) hf)
            clear hf
            refine (append_at F.out.1 H4.out (by unfold maxLen; omega)).mono ?_
            rintro e w5 ⟨rfl, v5, h5, t5, f5⟩
            simp only []
            have c2 := f5.cell c2 N1.out N2.out
            have c3 := f5.cell c3 N1.out N2.out
            have b5 := B4.out.trans (f5.below (Nat.le_refl _) hv B4.out.size)
            have t6 : ∀ g, v5.ownBlock = some g → w.heap.size ≤ g := fun g hg => (t5 g hg).elim (hv g) (fun h => Nat.le_trans B4.out.size h)
            clear f5 t5
            go_wp2_with fail
            refine (read_at (S := x.S) F.out.2.1 h5).mono ?_
            rintro e w6 ⟨rfl, rfl⟩
            simp only []
            go_wp2_with fail
            refine (loose_at (e := (x.S.size : Int) - x.k) (by rw [F.out.2.1, F.out.2.2.1]) h5).mono ?_
            rintro e w6 ⟨rfl, h6, f6⟩
            simp only []
            have b6 := b5.trans (f6.below (Nat.le_refl _) t6 b5.size)
            clear f6
            go_wp2_with fail
            go_roundw
            case rel => exact ⟨k + 1, by omega, by go_num, x.put S, v5, by rw [F.out.2.2.2.1]; go_num, by rw [F.out.2.2.2.2], h6, t6, b6⟩
            case measure => simp [intOf]; omega
          · have F := Lib.hid (put_fits x S (by omega) hf)
            clear hf
            refine (append_at F.out.1 H4.out (by unfold maxLen; omega)).mono ?_
            rintro e w5 ⟨rfl, v5, h5, t5, f5⟩
            simp only []
            have c2 := f5.cell c2 N1.out N2.out
            have c3 := f5.cell c3 N1.out N2.out
            have b5 := B4.out.trans (f5.below (Nat.le_refl _) hv B4.out.size)
            have t6 : ∀ g, v5.ownBlock = some g → w.heap.size ≤ g := fun g hg => (t5 g hg).elim (hv g) (fun h => Nat.le_trans B4.out.size h)
            clear f5 t5
            go_wp2_with fail
            go_roundw
            case rel => exact ⟨k + 1, by omega, by go_num, x.put S, v5, by rw [F.out.2.1]; go_num, by rw [F.out.2.2], h5, t6, b5⟩
            case measure => simp [intOf]; omega
        · by_cases hB : 2 ≤ x.a
          · by_cases hf : x.room < x.S.size + S.size
            · have F := Lib.hid (put_full x S (by omega) hf)
              clear hf
              refine (append_at F.out.1 H4.out (by unfold maxLen; omega)).mono ?_
              rintro e w5 ⟨rfl, v5, h5, t5, f5⟩
              simp only []
              have c2 := f5.cell c2 N1.out N2.out
              have c3 := f5.cell c3 N1.out N2.out
              have b5 := B4.out.trans (f5.below (Nat.le_refl _) hv B4.out.size)
              have t6 : ∀ g, v5.ownBlock = some g → w.heap.size ≤ g := fun g hg => (t5 g hg).elim (hv g) (fun h => Nat.le_trans B4.out.size h)
              clear f5 t5
              go_wp2_with fail
              refine (read_at (S := x.S) F.out.2.1 h5).mono ?_
              rintro e w6 ⟨rfl, rfl⟩
              simp only []
              go_wp2_with fail
              refine (loose_at (e := (x.S.size : Int) - x.k) (by rw [F.out.2.1, F.out.2.2.1]) h5).mono ?_
              rintro e w6 ⟨rfl, h6, f6⟩
              simp only []
              have b6 := b5.trans (f6.below (Nat.le_refl _) t6 b5.size)
              clear f6
              go_wp2_with fail
              go_roundw
              case rel => exact ⟨k + 1, by omega, by go_num, x.put S, v5, by rw [F.out.2.2.2.1]; go_num, by rw [F.out.2.2.2.2], h6, t6, b6⟩
              case measure => simp [intOf]; omega
            · have F := Lib.hid (put_fits x S (by omega) hf)
              clear hf
              refine (append_at F.out.1 H4.out (by unfold maxLen; omega)).mono ?_
              rintro e w5 ⟨rfl, v5, h5, t5, f5⟩
              simp only []
              have c2 := f5.cell c2 N1.out N2.out
              have c3 := f5.cell c3 N1.out N2.out
              have b5 := B4.out.trans (f5.below (Nat.le_refl _) hv B4.out.size)
              have t6 : ∀ g, v5.ownBlock = some g → w.heap.size ≤ g := fun g hg => (t5 g hg).elim (hv g) (fun h => Nat.le_trans B4.out.size h)
              clear f5 t5
              go_wp2_with fail
              go_roundw
              case rel => exact ⟨k + 1, by omega, by go_num, x.put S, v5, by rw [F.out.2.1]; go_num, by rw [F.out.2.2], h5, t6, b5⟩
              case measure => simp [intOf]; omega
          · have F := Lib.hid (put_due x S (by omega))
            have hA1 : 1 ≤ x.a := by omega
            have hA2 : x.a ≤ 1 := by omega
            refine (append_at F.out.1 H4.out (by unfold maxLen; omega)).mono ?_
            rintro e w5 ⟨rfl, v5, h5, t5, f5⟩
            simp only []
            have c2 := f5.cell c2 N1.out N2.out
            have c3 := f5.cell c3 N1.out N2.out
            have b5 := B4.out.trans (f5.below (Nat.le_refl _) hv B4.out.size)
            have t6 : ∀ g, v5.ownBlock = some g → w.heap.size ≤ g := fun g hg => (t5 g hg).elim (hv g) (fun h => Nat.le_trans B4.out.size h)
            clear f5 t5
            go_wp2_with fail
            refine (read_at (S := x.S) F.out.2.1 h5).mono ?_
            rintro e w6 ⟨rfl, rfl⟩
            simp only []
            go_wp2_with fail
            refine (loose_at (e := (x.S.size : Int) - x.k) (by rw [F.out.2.1, F.out.2.2.1]) h5).mono ?_
            rintro e w6 ⟨rfl, h6, f6⟩
            simp only []
            have b6 := b5.trans (f6.below (Nat.le_refl _) t6 b5.size)
            clear f6
            go_wp2_with fail
            go_roundw
            case rel => exact ⟨k + 1, by omega, by go_num, x.put S, v5, by rw [F.out.2.2.2.1]; go_num, by rw [F.out.2.2.2.2], h6, t6, b6⟩
            case measure => simp [intOf]; omega
      · by_cases hA : x.s < 1
        · have F := Lib.hid (flush_ok x (by omega))
          refine (sync_at F.out.1 H4.out).mono ?_
          rintro e w5 ⟨rfl, v5, h5, t5, f5⟩
          simp only []
          have c2 := f5.cell c2 N1.out N2.out
          have c3 := f5.cell c3 N1.out N2.out
          have b5 := B4.out.trans (f5.below (Nat.le_refl _) hv B4.out.size)
          have t6 : ∀ g, v5.ownBlock = some g → w.heap.size ≤ g := fun g hg => (t5 g hg).elim (hv g) (fun h => Nat.le_trans B4.out.size h)
          clear f5 t5
          go_wp2_with fail
          go_roundw
          case rel => exact ⟨k + 1, by omega, by go_num, x.flush, v5, by rw [F.out.2.1], by rw [F.out.2.2]; go_num, h5, t6, b5⟩
          case measure => simp [intOf]; omega
        · by_cases hB : 2 ≤ x.s
          · have F := Lib.hid (flush_ok x (by omega))
            refine (sync_at F.out.1 H4.out).mono ?_
            rintro e w5 ⟨rfl, v5, h5, t5, f5⟩
            simp only []
            have c2 := f5.cell c2 N1.out N2.out
            have c3 := f5.cell c3 N1.out N2.out
            have b5 := B4.out.trans (f5.below (Nat.le_refl _) hv B4.out.size)
            have t6 : ∀ g, v5.ownBlock = some g → w.heap.size ≤ g := fun g hg => (t5 g hg).elim (hv g) (fun h => Nat.le_trans B4.out.size h)
            clear f5 t5
            go_wp2_with fail
            go_roundw
            case rel => exact ⟨k + 1, by omega, by go_num, x.flush, v5, by rw [F.out.2.1], by rw [F.out.2.2]; go_num, h5, t6, b5⟩
            case measure => simp [intOf]; omega
          · have F := Lib.hid (flush_due x (by omega))
            have hA1 : 1 ≤ x.s := by omega
            have hA2 : x.s ≤ 1 := by omega
            refine (sync_at F.out.1 H4.out).mono ?_
            rintro e w5 ⟨rfl, v5, h5, t5, f5⟩
            simp only []
            have c2 := f5.cell c2 N1.out N2.out
            have c3 := f5.cell c3 N1.out N2.out
            have b5 := B4.out.trans (f5.below (Nat.le_refl _) hv B4.out.size)
            have t6 : ∀ g, v5.ownBlock = some g → w.heap.size ≤ g := fun g hg => (t5 g hg).elim (hv g) (fun h => Nat.le_trans B4.out.size h)
            clear f5 t5
            go_wp2_with fail
            refine (read_at (S := x.S) F.out.2.1 h5).mono ?_
            rintro e w6 ⟨rfl, rfl⟩
            simp only []
            go_wp2_with fail
            refine (loose_at (e := (x.S.size : Int) - x.k) (by rw [F.out.2.1, F.out.2.2.1]) h5).mono ?_
            rintro e w6 ⟨rfl, h6, f6⟩
            simp only []
            have b6 := b5.trans (f6.below (Nat.le_refl _) t6 b5.size)
            clear f6
            go_wp2_with fail
            go_roundw
            case rel => exact ⟨k + 1, by omega, by go_num, x.flush, v5, by rw [F.out.2.2.2.1], by rw [F.out.2.2.2.2]; go_num, h6, t6, b6⟩
            case measure => simp [intOf]; omega
      · by_cases hn : n < 0 ∨ x.S.size < n
        · have F := Lib.hid (show x.cutE n = 2 ∧ x.cut n = x from ⟨if_pos hn, if_pos hn⟩)
          clear hn
          refine (cut_at F.out.1 H4.out).mono ?_
          rintro e w5 ⟨rfl, v5, h5, t5, f5⟩
          simp only []
          have c2 := f5.cell c2 N1.out N2.out
          have c3 := f5.cell c3 N1.out N2.out
          have b5 := B4.out.trans (f5.below (Nat.le_refl _) hv B4.out.size)
          have t6 : ∀ g, v5.ownBlock = some g → w.heap.size ≤ g := fun g hg => (t5 g hg).elim (hv g) (fun h => Nat.le_trans B4.out.size h)
          clear f5 t5
          rw [F.out.2] at h5
          go_wp2_with fail
          refine (read_at (S := x.S) (show x.S = x.S from rfl) h5).mono ?_
          rintro e w6 ⟨rfl, rfl⟩
          simp only []
          go_wp2_with fail
          refine (loose_at (e := (x.S.size : Int) - x.k) rfl h5).mono ?_
          rintro e w6 ⟨rfl, h6, f6⟩
          simp only []
          have b6 := b5.trans (f6.below (Nat.le_refl _) t6 b5.size)
          clear f6
          go_wp2_with fail
          go_roundw
          case rel => exact ⟨k + 1, by omega, by go_num, x, v5, rfl, rfl, h6, t6, b6⟩
          case measure => simp [intOf]; omega
        · have F := Lib.hid (show x.cutE n = 0 ∧ (x.cut n).a = x.a ∧ (x.cut n).s = x.s by unfold DS.cut DS.cutE; rw [if_neg hn, if_neg hn]; exact ⟨rfl, rfl, rfl⟩)
          clear hn
          refine (cut_at F.out.1 H4.out).mono ?_
          rintro e w5 ⟨rfl, v5, h5, t5, f5⟩
          simp only []
          have c2 := f5.cell c2 N1.out N2.out
          have c3 := f5.cell c3 N1.out N2.out
          have b5 := B4.out.trans (f5.below (Nat.le_refl _) hv B4.out.size)
          have t6 : ∀ g, v5.ownBlock = some g → w.heap.size ≤ g := fun g hg => (t5 g hg).elim (hv g) (fun h => Nat.le_trans B4.out.size h)
          clear f5 t5
          go_wp2_with fail
          go_roundw
          case rel => exact ⟨k + 1, by omega, by go_num, x.cut n, v5, by rw [F.out.2.1], by rw [F.out.2.2], h5, t6, b5⟩
          case measure => simp [intOf]; omega
      · by_cases hn : n < 0 ∨ m < 0
        · have F := Lib.hid (show DS.failsE n m = 2 ∧ x.fails n m = x from ⟨if_pos hn, if_pos hn⟩)
          clear hn
          refine (fails_at F.out.1 H4.out hu.1 hu.2).mono ?_
          rintro e w5 ⟨rfl, v5, h5, t5, f5⟩
          simp only []
          have c2 := f5.cell c2 N1.out N2.out
          have c3 := f5.cell c3 N1.out N2.out
          have b5 := B4.out.trans (f5.below (Nat.le_refl _) hv B4.out.size)
          have t6 : ∀ g, v5.ownBlock = some g → w.heap.size ≤ g := fun g hg => (t5 g hg).elim (hv g) (fun h => Nat.le_trans B4.out.size h)
          clear f5 t5
          rw [F.out.2] at h5
          go_wp2_with fail
          refine (read_at (S := x.S) (show x.S = x.S from rfl) h5).mono ?_
          rintro e w6 ⟨rfl, rfl⟩
          simp only []
          go_wp2_with fail
          refine (loose_at (e := (x.S.size : Int) - x.k) rfl h5).mono ?_
          rintro e w6 ⟨rfl, h6, f6⟩
          simp only []
          have b6 := b5.trans (f6.below (Nat.le_refl _) t6 b5.size)
          clear f6
          go_wp2_with fail
          go_roundw
          case rel => exact ⟨k + 1, by omega, by go_num, x, v5, rfl, rfl, h6, t6, b6⟩
          case measure => simp [intOf]; omega
        · have F := Lib.hid (show DS.failsE n m = 0 ∧ ((x.fails n m).a : Int) = n ∧ ((x.fails n m).s : Int) = m by unfold DS.fails DS.failsE; rw [if_neg hn, if_neg hn]; exact ⟨rfl, by simp only []; omega, by simp only []; omega⟩)
          clear hn
          refine (fails_at F.out.1 H4.out hu.1 hu.2).mono ?_
          rintro e w5 ⟨rfl, v5, h5, t5, f5⟩
          simp only []
          have c2 := f5.cell c2 N1.out N2.out
          have c3 := f5.cell c3 N1.out N2.out
          have b5 := B4.out.trans (f5.below (Nat.le_refl _) hv B4.out.size)
          have t6 : ∀ g, v5.ownBlock = some g → w.heap.size ≤ g := fun g hg => (t5 g hg).elim (hv g) (fun h => Nat.le_trans B4.out.size h)
          clear f5 t5
          go_wp2_with fail
          go_roundw
          case rel => exact ⟨k + 1, by omega, by go_num, x.fails n m, v5, by rw [F.out.2.1], by rw [F.out.2.2], h5, t6, b5⟩
          case measure => simp [intOf]; omega
      · refine (crash_any _ _ x n _ H4.out).mono ?_
        rintro e w5 ⟨rfl, v5, h5, t5, f5⟩
        simp only []
        have c2 := f5.cell c2 N1.out N2.out
        have c3 := f5.cell c3 N1.out N2.out
        have b5 := B4.out.trans (f5.below (Nat.le_refl _) hv B4.out.size)
        have t6 : ∀ g, v5.ownBlock = some g → w.heap.size ≤ g := fun g hg => (t5 g hg).elim (hv g) (fun h => Nat.le_trans B4.out.size h)
        clear f5 t5
        go_wp2_with fail
        go_roundw
        case rel => exact ⟨k + 1, by omega, by go_num, x.crash n, v5, rfl, rfl, h5, t6, b5⟩
        case measure => simp [intOf]; omega
      · have h5 := H4.out
        go_wp2_with fail
        go_roundw
        case rel => exact ⟨k + 1, by omega, by go_num, x, v, rfl, rfl, h5, hv, B4.out⟩
        case measure => simp [intOf]; omega
    · obtain rfl : k = l.length := by omega
      clear hlt
      obtain ⟨w3, rfl⟩ : ∃ w3 : World, w3 = wr := ⟨_, rfl⟩
      go_wp2_with fail
      refine (works_any _).mono ?_
      rintro e w6 ⟨rfl, b6⟩
      simp only []
      go_wp2_with fail
      go_ret
      exact ⟨rfl, hb.more b6⟩

end Go.Proofs.Ytimoenlnkafhoaa
