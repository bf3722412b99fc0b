/-
  DiskKeeps' walk: what was synced is there behind any crash, and of what was loose a beginning.
-/
import Derived.Test.YtimoenlnkafhoaaSteps
set_option linter.unusedVariables false
namespace Go.Proofs.Ytimoenlnkafhoaa
open Go.ChangeShapes Go.WideShapes Go.ChangeAt Go.RowKit
open Go.Deep

theorem put_S_ok (x : DS) (t : ByteArray) (h : x.putE t = 0) : (x.put t).S = x.S ++ t ∧ (x.put t).k = x.k := by unfold DS.put; rw [if_pos h]; exact ⟨rfl, rfl⟩
theorem put_S_no (x : DS) (t : ByteArray) (h : x.putE t ≠ 0) : (x.put t).S = x.S ∧ (x.put t).k = x.k := by unfold DS.put; rw [if_neg h]; exact ⟨rfl, rfl⟩
theorem prefix_put (x : DS) (h : x.Ok) (t : ByteArray) : (x.S ++ t).extract 0 x.k = x.S.extract 0 x.k := by
  have hk := h.k
  rw [ByteArray.extract_append]
  have e1 : (0 : Nat) - x.S.size = 0 := by omega
  have e2 : x.k - x.S.size = 0 := by omega
  rw [e1, e2]
  have : t.extract 0 0 = ByteArray.empty := by simp
  rw [this, ByteArray.append_empty]

theorem Fr.cell {d : Nat} {row : Option Nat} {w w' : World} (h : Fr d row w w') {c o : Nat} {v : Value} (hc : w.cell? ⟨c, o, none⟩ = some v) (h1 : c ≠ d) (h2 : some c ≠ row) : w'.cell? ⟨c, o, none⟩ = some v :=
  (World.cell?_of_block (a := ⟨c, o, none⟩) (h.block c (World.block_lt_of_cell? _ _ hc) h1 h2)).trans hc

theorem keeps_end (x : DS) (keep : Int) (h : x.Ok) :
    let s := x.S.extract 0 (x.kept keep)
    let sy := x.S.extract 0 x.k
    sy.size ≤ s.size ∧ s.size ≤ x.S.size ∧ x.S.extract 0 s.size = s ∧ s.extract 0 sy.size = sy ∧ (¬ 0 < keep → s = sy) ∧ (¬ keep < x.S.size → s = x.S) := by
  have hk := DS.kept_le h keep
  have h1 : (x.S.extract 0 (x.kept keep)).size = x.kept keep := by rw [ByteArray.size_extract]; omega
  have h2 : (x.S.extract 0 x.k).size = x.k := by rw [ByteArray.size_extract]; omega
  refine ⟨by rw [h1, h2]; exact hk.1, by rw [h1]; exact hk.2, by rw [h1], ?_, fun hn => ?_, fun hn => ?_⟩
  · rw [h2, ByteArray.extract_extract]
    congr 1
    omega
  · have : x.kept keep = x.k := by unfold DS.kept; omega
    rw [this]
  · have : x.kept keep = x.S.size := by unfold DS.kept; have := h.k; omega
    rw [this, ByteArray.extract_zero_size]

theorem _root_.Go.RowKit.Below.more {w w1 w2 : World} (h : Below w.heap.size w w1) (k : Below w1.heap.size w1 w2) : Below w.heap.size w w2 := h.trans (k.mono h.size)

set_option maxHeartbeats 1000000 in
set_option maxRecDepth 100000 in
theorem keeps_walk (room : Nat) (ao : Option Addr) (cap : Nat) (l : List St) (keep : Int) (w : World) (hr : room ≤ 65535) (H : Hid (StepsAt w ao l)) (hl : l.length ≤ 300) (hs : sumS l ≤ 65536) :
    Calls Try.prog 3 #[.int .u16 room, .slice ao l.length cap, .int .i64 keep] w fun e w' => e = .returned (.bool true) ∧ Below w.heap.size w w' := by
  have hh : heavyB l = false := decide_eq_false (by omega)
  have HH := Lib.hid hh
  clear hh
  go_enter Try.func3, Try.ntmps3
  go_wp2_with fail
  refine (heavy_any ao cap l w H (by unfold maxLen; omega) (by omega)).mono ?_
  rintro e w0 ⟨rfl, rfl⟩
  rw [HH.out]
  simp only []
  go_wp2_with fail
  refine (new_any room _ (by omega)).mono ?_
  rintro e w1 ⟨rfl, h1, b1⟩
  simp only []
  have t1 : ∀ g, (Value.slice none 0 0).ownBlock = some g → w.heap.size ≤ g := fun g hg => by simp [Value.ownBlock] at hg
  go_wp2_with fail
  go_loopw [9, 10, 11] (fun sy wh i wr => ∃ k : Nat, k ≤ l.length ∧ i = .int .i64 k ∧ ∃ (x : DS) (v : Value), wh = .string x.S ∧ sy = .string (x.S.extract 0 x.k) ∧ DiskV wr w.heap.size v x ∧ (∀ g, v.ownBlock = some g → w.heap.size ≤ g) ∧ Below w.heap.size w wr) (fun _ _ i _ => l.length - (intOf i).toNat)
  case atStart => exact ⟨0, Nat.zero_le _, rfl, DS.empty room, _, rfl, by simp [DS.empty]; rfl, h1, t1, b1⟩
  case round =>
    obtain ⟨k, hk, rfl, x, v, rfl, rfl, hd, hv, hb⟩ := hrel
    clear h1 b1 t1
    by_cases hlt : k < l.length
    · obtain ⟨b, off, hal, hbw, q0, q1, q2, q3, hu⟩ := H.out k hlt
      subst hal
      have q0 := (hb.cell (p := ⟨b, _, none⟩) hbw).trans q0
      have q1 := (hb.cell (p := ⟨b, _, none⟩) hbw).trans q1
      have q2 := (hb.cell (p := ⟨b, _, none⟩) hbw).trans q2
      have q3 := (hb.cell (p := ⟨b, _, none⟩) hbw).trans q3
      have hSz : l[k].S.size ≤ 65536 := by
        have h2 := sumS_step l k hlt
        have h3 := sumS_take l (k + 1)
        omega
      obtain ⟨u, hu2⟩ : ∃ u, u = l[k] := ⟨_, rfl⟩
      rw [← hu2] at q0 q1 q2 q3 hu hSz
      obtain ⟨o, S, n, m⟩ := u
      clear hu2
      simp only [] at q0 q1 q2 q3 hSz
      have n1 : wr.heap.size ≠ w.heap.size := Nat.ne_of_gt hd.lt
      have n2 : some wr.heap.size ≠ v.ownBlock := fun e => Nat.lt_irrefl _ (hd.row_lt e.symm)
      have N1 := Lib.hid n1
      have N2 := Lib.hid n2
      have ho := hd.alloc (.cells #[.int .i64 o, .string S, .int .i64 n, .int .i64 m] 31)
      have bo := hb.alloc hb.size (.cells #[.int .i64 o, .string S, .int .i64 n, .int .i64 m] 31)
      have e1 : (wr.alloc (.cells #[.int .i64 o, .string S, .int .i64 n, .int .i64 m] 31)).cell? ⟨wr.heap.size, 1, none⟩ = some (.string S) := by simp
      have HO := Lib.hid ho
      have BO := Lib.hid bo
      have E1 := Lib.hid e1
      clear n1 n2 ho bo e1 hd hb
      have KP := Lib.hid (prefix_put x HO.out.ok S)
      go_wp2_with fail
      · by_cases he : x.putE S = 0
        · have hsz : x.S.size + S.size ≤ 1048576 := by
            have h1 := HO.out.ok.room
            unfold DS.putE at he
            split at he
            · cases he
            · split at he
              · cases he
              · omega
          obtain ⟨f1, f2⟩ := put_S_ok x S he
          have F1 := Lib.hid f1
          have F2 := Lib.hid f2
          have HE := Lib.hid he
          clear f1 f2 he
          have a1 : ∀ u, (Op.stringOp .add x.S S).run Try.prog u = .ok (.string (x.S ++ S)) u := fun u => run_string_add_sum u _ _ (by omega)
          refine (append_at HE.out HO.out (by unfold maxLen; omega)).mono ?_
          rintro e w2 ⟨rfl, v2, h2, t2, f2⟩
          simp only []
          have c2 := f2.cell E1.out N1.out N2.out
          have b2 := BO.out.trans (f2.below (Nat.le_refl _) hv BO.out.size)
          go_wp2_with fail
          refine (read_at F1.out h2).mono ?_
          rintro e w3 ⟨rfl, rfl⟩
          simp only []
          go_wp2_with fail
          go_roundw
          case rel => exact ⟨k + 1, by omega, by go_num, x.put S, v2, by rw [F1.out], by rw [F1.out, F2.out, KP.out], h2, fun g hg => (t2 g hg).elim (hv g) (fun h => by have := BO.out.size; omega), b2⟩
          case measure => simp [intOf]; omega
        · obtain ⟨f1, f2⟩ := put_S_no x S he
          have he2 : (x.putE S == 0) = false := beq_eq_false_iff_ne.2 he
          have F1 := Lib.hid f1
          have F2 := Lib.hid f2
          clear f1 f2 he
          refine (append_any _ _ x S _ HO.out (by unfold maxLen; omega)).mono ?_
          rintro e w2 ⟨rfl, v2, h2, t2, f2⟩
          simp only []
          have b2 := BO.out.trans (f2.below (Nat.le_refl _) hv BO.out.size)
          go_wp2_with fail
          refine (read_at F1.out h2).mono ?_
          rintro e w3 ⟨rfl, rfl⟩
          simp only []
          go_wp2_with fail
          go_roundw
          case rel => exact ⟨k + 1, by omega, by go_num, x.put S, v2, by rw [F1.out], by rw [F1.out, F2.out], h2, fun g hg => (t2 g hg).elim (hv g) (fun h => by have := BO.out.size; omega), b2⟩
          case measure => simp [intOf]; omega
      · by_cases he : x.s = 1
        · have f0 : x.flushE = 230 := if_pos he
          have f1 : x.flush = x.tickS := if_pos he
          refine (sync_at f0 HO.out).mono ?_
          rw [f1]
          clear f0 f1 he
          rintro e w2 ⟨rfl, v2, h2, t2, f2⟩
          simp only []
          have b2 := BO.out.trans (f2.below (Nat.le_refl _) hv BO.out.size)
          go_wp2_with fail
          refine (read_at (x := x.tickS) (S := x.S) rfl h2).mono ?_
          rintro e w3 ⟨rfl, rfl⟩
          simp only []
          go_wp2_with fail
          go_roundw
          case rel => exact ⟨k + 1, by omega, by go_num, x.tickS, v2, rfl, rfl, h2, fun g hg => (t2 g hg).elim (hv g) (fun h => by have := BO.out.size; omega), b2⟩
          case measure => simp [intOf]; omega
        · have f0 : x.flushE = 0 := if_neg he
          have f1 : x.flush = { x.tickS with k := x.S.size } := if_neg he
          refine (sync_at f0 HO.out).mono ?_
          rw [f1]
          clear f0 f1 he
          rintro e w2 ⟨rfl, v2, h2, t2, f2⟩
          simp only []
          have b2 := BO.out.trans (f2.below (Nat.le_refl _) hv BO.out.size)
          go_wp2_with fail
          refine (read_at (x := { x.tickS with k := x.S.size }) (S := x.S) rfl h2).mono ?_
          rintro e w3 ⟨rfl, rfl⟩
          simp only []
          go_wp2_with fail
          go_roundw
          case rel => exact ⟨k + 1, by omega, by go_num, { x.tickS with k := x.S.size }, v2, rfl, by show Value.string x.S = .string (x.S.extract 0 x.S.size); rw [ByteArray.extract_zero_size], h2, fun g hg => (t2 g hg).elim (hv g) (fun h => by have := BO.out.size; omega), b2⟩
          case measure => simp [intOf]; omega
      · have f1 : (x.fails n m).S = x.S ∧ (x.fails n m).k = x.k := by unfold DS.fails; split <;> exact ⟨rfl, rfl⟩
        have F1 := Lib.hid f1
        clear f1
        refine (fails_any _ _ x n m _ HO.out hu.1 hu.2).mono ?_
        rintro e w2 ⟨rfl, v2, h2, t2, f2⟩
        simp only []
        have b2 := BO.out.trans (f2.below (Nat.le_refl _) hv BO.out.size)
        go_wp2_with fail
        refine (read_at F1.out.1 h2).mono ?_
        rintro e w3 ⟨rfl, rfl⟩
        simp only []
        go_wp2_with fail
        go_roundw
        case rel => exact ⟨k + 1, by omega, by go_num, x.fails n m, v2, by rw [F1.out.1], by rw [F1.out.1, F1.out.2], h2, fun g hg => (t2 g hg).elim (hv g) (fun h => by have := BO.out.size; omega), b2⟩
        case measure => simp [intOf]; omega
      · refine (read_at (S := x.S) rfl HO.out).mono ?_
        rintro e w3 ⟨rfl, rfl⟩
        simp only []
        go_wp2_with fail
        go_roundw
        case rel => exact ⟨k + 1, by omega, by go_num, x, v, rfl, rfl, HO.out, hv, BO.out⟩
        case measure => simp [intOf]; omega
    · obtain rfl : k = l.length := by omega
      clear hlt
      obtain ⟨w3, rfl⟩ : ∃ w3 : World, w3 = wr := ⟨_, rfl⟩
      have hk1 := DS.kept_le hd.ok keep
      have hsz := hd.ok.size
      have hrm := hd.ok.room
      go_wp2_with fail
      refine (crash_any _ _ x keep _ hd).mono ?_
      rintro e w4 ⟨rfl, v4, h4, t4, f4⟩
      simp only []
      have b4 := hb.trans (f4.below (Nat.le_refl _) hv hb.size)
      go_wp2_with fail
      refine (read_at (S := x.S.extract 0 (x.kept keep)) rfl h4).mono ?_
      rintro e w5 ⟨rfl, rfl⟩
      simp only []
      have hfin := Lib.hid (keeps_end x keep hd.ok)
      obtain ⟨W, hW⟩ : ∃ W, W = x.S := ⟨_, rfl⟩
      obtain ⟨s, hs2⟩ : ∃ s, s = x.S.extract 0 (x.kept keep) := ⟨_, rfl⟩
      obtain ⟨sy, hsy⟩ : ∃ sy, sy = x.S.extract 0 x.k := ⟨_, rfl⟩
      have K := hfin.out
      rw [← hs2, ← hsy, ← hW] at K
      rw [← hs2, ← hsy, ← hW]
      rw [← hW] at hsz
      clear hs2 hsy hW hfin hk1 h4 f4 t4 hd hb hv
      obtain ⟨k1, k2, k3, k4, k5, k6⟩ := K
      by_cases c1 : 0 < keep
      · by_cases c2 : keep < W.size
        · clear k5 k6
          go_wp2_with fail
          refine (works_any _).mono ?_
          rintro e w6 ⟨rfl, b6⟩
          simp only []
          go_wp2_with fail
          go_ret
          exact ⟨rfl, b4.more b6⟩
        · have e := k6 c2
          clear k5 k6
          subst e
          go_wp2_with fail
          refine (works_any _).mono ?_
          rintro e w6 ⟨rfl, b6⟩
          simp only []
          go_wp2_with fail
          go_ret
          exact ⟨rfl, b4.more b6⟩
      · have e := k5 c1
        by_cases c2 : keep < W.size
        · clear k5 k6
          subst e
          go_wp2_with fail
          refine (works_any _).mono ?_
          rintro e w6 ⟨rfl, b6⟩
          simp only []
          go_wp2_with fail
          go_ret
          exact ⟨rfl, b4.more b6⟩
        · have e2 := k6 c2
          clear k5 k6
          subst e2
          subst e
          go_wp2_with fail
          refine (works_any _).mono ?_
          rintro e w6 ⟨rfl, b6⟩
          simp only []
          go_wp2_with fail
          go_ret
          exact ⟨rfl, b4.more b6⟩

end Go.Proofs.Ytimoenlnkafhoaa
