/-
  Chains of keys: the code's and the document's.
-/
import Derived.Test.YtfminodongcelaaDoorRefExpand
set_option linter.unusedVariables false
set_option linter.unusedSimpArgs false
namespace Go.Proofs.YtfminodongcelaaDoor
open Go.RowKit
open Go.Lib (strCells)

def linkS (key s : ByteArray) (n i : Nat) : ByteArray := (expS (hmacS key s) .empty (32 * n)).extract (32 * i) (32 * i + 32)
theorem und33 : Tryd.prog.underlying 33 = some (.slice 9) := by kernel_rfl
theorem Tryd.info9 : (Tryd.prog.info? 9).map (fun i => (i.zero, i.size, i.bytes)) = some (some (.string .empty), 1, 16) := by kernel_rfl
theorem info9_parts : ∃ i, Tryd.prog.info? 9 = some i ∧ i.zero = some (.string .empty) ∧ i.size = 1 ∧ i.bytes = 16 := by
  have h := Tryd.info9
  cases hq : Tryd.prog.info? 9 with
  | none => simp [hq] at h
  | some i => simp [hq] at h; exact ⟨i, rfl, h.1, h.2.1, h.2.2⟩
set_option maxHeartbeats 4000000 in
theorem chain_bad (key s : ByteArray) (n : Int) (w : World) (h : n < 1 ∨ 1 ≤ n ∧ 3 < n) : Calls Tryd.prog 28 #[.string key, .string s, .int .i64 n] w fun e w' => e = .returned (.tuple #[.slice none 0 0, .int .i64 2]) ∧ w' = w := by
  rcases h with h | ⟨h1, h⟩
  · go_enter Tryd.func28, Tryd.ntmps28
    go_wp2_with fail
    go_ret2
    exact ⟨rfl, rfl⟩
  · go_enter Tryd.func28, Tryd.ntmps28
    go_wp2_with fail
    go_ret2
    exact ⟨rfl, rfl⟩
set_option maxHeartbeats 4000000 in
theorem refchain_bad (key s : ByteArray) (n : Int) (w : World) (h : n < 1 ∨ 1 ≤ n ∧ 3 < n) : Calls Tryd.prog 29 #[.string key, .string s, .int .i64 n] w fun e w' => e = .returned (.tuple #[.slice none 0 0, .int .i64 2]) ∧ w' = w := by
  rcases h with h | ⟨h1, h⟩
  · go_enter Tryd.func29, Tryd.ntmps29
    go_wp2_with fail
    go_ret2
    exact ⟨rfl, rfl⟩
  · go_enter Tryd.func29, Tryd.ntmps29
    go_wp2_with fail
    go_ret2
    exact ⟨rfl, rfl⟩
theorem lkI (z n : Nat) (h : z < n) (hn : n ≤ 3) : ∃ A B : Nat, A = 32 * z ∧ B = 32 * z + 32 ∧ (z : Int) * 32 = A ∧ 32 * (z : Int) = A ∧ ((z : Int) + 1) * 32 = B ∧ (A : Int) + 32 = B ∧ IntKind.i64.wrap (A : Int) = A ∧ IntKind.i64.wrap (B : Int) = B ∧ wrap64 (A : Int) = A ∧ wrap64 (B : Int) = B ∧ (0 : Int) ≤ A ∧ (A : Int) ≤ B ∧ (B : Int) ≤ ((32 * n : Nat) : Int) ∧ A ≤ B ∧ B ≤ 32 * n ∧ (z : Int) < n ∧ (0 : Int) ≤ z := by
  refine ⟨32 * z, 32 * z + 32, rfl, rfl, by omega, by omega, by omega, by omega, IntWalk.i64_in _ (by omega), IntWalk.i64_in _ (by omega), by unfold wrap64; omega, by unfold wrap64; omega, by omega⟩
theorem nI (n : Nat) (h1 : 1 ≤ n) (h3 : n ≤ 3) : ∃ M : Nat, M = 32 * n ∧ (n : Int) * 32 = M ∧ 32 * (n : Int) = M ∧ IntKind.i64.wrap (M : Int) = M ∧ wrap64 (M : Int) = M ∧ M ≤ 8160 ∧ (1 : Int) ≤ n ∧ (n : Int) ≤ 3 :=
  ⟨32 * n, rfl, by omega, by omega, IntWalk.i64_in _ (by omega), by unfold wrap64; omega, by omega⟩
def lkV (key s : ByteArray) (n z j : Nat) : Value := .string (if j < z then linkS key s n j else .empty)
theorem lk_step {w : World} {b t n z : Nat} {key s L : ByteArray} (h : w.rowIs b t n (lkV key s n z)) (hL : L = linkS key s n z) : (w.setCell ⟨b, z, none⟩ (.string L)).rowIs b t n (lkV key s n (z + 1)) := by
  refine (h.set _ _).congr (fun j hj => ?_)
  unfold lkV
  by_cases e : j = z
  · subst e
    rw [if_pos rfl, if_pos (by omega), hL]
  · rw [if_neg e]
    by_cases e2 : j < z
    · rw [if_pos e2, if_pos (by omega)]
    · rw [if_neg e2, if_neg (by omega)]
/-- What a chain answers. -/
def Links (key s : ByteArray) (n : Nat) (w : World) (e : Ending) (w' : World) : Prop :=
  ∃ g cap, e = .returned (.tuple #[.slice (some ⟨g, 0, none⟩) n cap, .int .i64 0]) ∧ (∀ i, i < n → w'.cell? ⟨g, i, none⟩ = some (.string (linkS key s n i))) ∧ Below w.heap.size w w'
set_option maxHeartbeats 8000000 in
theorem chain_any (key s : ByteArray) (n : Nat) (w : World) (hT : Tab w) (hk : key.size ≤ 10000) (hs : s.size ≤ 9000) (h1 : 1 ≤ n) (h3 : n ≤ 3) :
    Calls Tryd.prog 28 #[.string key, .string s, .int .i64 n] w (Links key s n w) := by
  have HT := Lib.hid (And.intro hT (And.intro hk (And.intro hs (And.intro h1 h3))))
  obtain ⟨M, hM, m1, m2, m3, m4, m5, n1, n2⟩ := nI n h1 h3
  have HM := Lib.hid (And.intro hM m5)
  have hmk := run_make_row' (P := Tryd.prog) 33 9 (.string .empty) 16 und33 (show (Tryd.prog.info? 9).map (fun i => (i.zero, i.size, i.bytes)) = some (some (.string .empty), 1, 16) by kernel_rfl) rfl .i64 .i64 n (by omega) (by omega)
  have HMK := Lib.hid hmk
  clear hT hk hs h1 h3 hM m5 hmk
  go_enter Tryd.func28, Tryd.ntmps28
  go_wp2_with fail
  refine (extract_any key s _ HT.out.1 (by have := HT.out.2.2.1; omega) HT.out.2.1).mono ?_
  rintro e w1 ⟨rfl, B1⟩
  have H1 := Lib.hid B1
  clear B1
  simp only []
  go_wp2_with fail
  refine (expand_any (hmacS key s) .empty M _ (HT.out.1.more H1.out) (by rw [hmacS_size]; decide) (by decide) HM.out.2).mono ?_
  rintro e w2 ⟨rfl, B2⟩
  have H2 := Lib.hid (H1.out.trans (B2.mono H1.out.size))
  clear B2
  obtain ⟨all, hall⟩ : ∃ all, all = expS (hmacS key s) .empty M := ⟨_, rfl⟩
  have has : all.size = 32 * n := by rw [hall, expS_size, HM.out.1]
  rw [← hall]
  have HA := Lib.hid (And.intro hall has)
  clear hall has
  simp only []
  have hmk := HMK.out
  go_wp2_with fail
  clear hmk
  have R0 := World.rowIs_made w2 (.string .empty) n 9
  have B3 := H2.out.alloc H2.out.size (.cells (madeCells #[.string .empty] n) 9)
  have hg := H2.out.size
  obtain ⟨g, hgg⟩ : ∃ g, g = w2.heap.size := ⟨_, rfl⟩
  rw [← hgg] at R0 hg
  rw [← hgg]
  obtain ⟨w3, hw3⟩ : ∃ uu, uu = w2.alloc (.cells (madeCells #[.string .empty] n) 9) := ⟨_, rfl⟩
  rw [← hw3] at R0 B3
  rw [← hw3]
  have H3 := Lib.hid (And.intro R0 (And.intro B3 hg))
  clear R0 B3 hg hgg hw3
  go_loopw [34] (fun i wr => ∃ z : Nat, z ≤ n ∧ i = .int .i64 z ∧ wr.rowIs g 9 n (lkV key s n z) ∧ Below w.heap.size w wr) (fun i _ => n - (intOf i).toNat)
  case atStart => exact ⟨0, Nat.zero_le _, rfl, H3.out.1.congr (fun j _ => rfl), H3.out.2.1⟩
  case round =>
    obtain ⟨z, hz, rfl, R, B⟩ := hrel
    have HR := Lib.hid (And.intro R B)
    clear R B
    by_cases hlt : z < n
    · obtain ⟨A, B, hA, hB, q1, q2, q3, q4, q5, q6, q7, q8, l1, l2, l3, l4, l5, l6, l7⟩ := lkI z n hlt HT.out.2.2.2.2
      rw [← HA.out.2] at l3 l5
      have c0 := HR.out.1.cell hlt
      have f0 := HR.out.1.frozen z
      have hL : all.extract A B = linkS key s n z := by rw [HA.out.1, HM.out.1, hA, hB]; rfl
      obtain ⟨L, hLL⟩ : ∃ L, L = all.extract A B := ⟨_, rfl⟩
      rw [← hLL] at hL
      have N1 := lk_step HR.out.1 hL
      have NB := HR.out.2.setCell (p := ⟨g, z, none⟩) H3.out.2.2 (.string L)
      have hsl : ∀ u, (Instr.slice 9 (.string all) (some (.int .i64 A)) (some (.int .i64 B)) none).run Tryd.prog u = .ok (.string L) u := fun u => by rw [hLL]; exact run_slice_string u 9 all .i64 .i64 A B und9 l1 l2 l3
      have HN := Lib.hid (And.intro N1 (And.intro NB hlt))
      clear hA hB hL hLL N1 NB hlt
      go_wp2_with fail
      go_roundw
      case rel => exact ⟨z + 1, HN.out.2.2, succI z, HN.out.1, HN.out.2.1⟩
      case measure => exact measI n z HN.out.2.2
    · have hzn := isN hz hlt
      have l1 : ¬ (z : Int) < n := nltI hlt
      have HZ := Lib.hid hzn
      clear hzn hlt hz
      go_wp2_with fail
      go_ret2
      refine ⟨g, n, rfl, fun i hi => ?_, HR.out.2⟩
      rw [HR.out.1.cell hi]
      unfold lkV
      rw [if_pos (by rw [HZ.out]; exact hi)]

end Go.Proofs.YtfminodongcelaaDoor
