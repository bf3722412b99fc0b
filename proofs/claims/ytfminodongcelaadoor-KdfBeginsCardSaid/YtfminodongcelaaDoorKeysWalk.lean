/-
  Which bytes come of a key: the statement's walk.
-/
import Derived.Test.YtfminodongcelaaDoorTagsWalk
set_option linter.unusedVariables false
set_option linter.unusedSimpArgs false
namespace Go.Proofs.YtfminodongcelaaDoor
open Go.RowKit
open Go.Lib (strCells)

theorem bad_chain {n : Int} (h : n < 0 ∨ 0 ≤ n ∧ 8160 < n) : n < 1 ∨ 1 ≤ n ∧ 3 < n := by omega
theorem chain_case (n : Nat) (h : ¬ (1 ≤ n ∧ n ≤ 3)) : (n : Int) < 1 ∨ 1 ≤ (n : Int) ∧ 3 < (n : Int) := by omega
set_option maxHeartbeats 8000000 in
theorem keys_long (key s : ByteArray) (n : Int) (w : World) (hT : Tab w) (h : ¬ key.size + s.size ≤ 2048) (hk : key.size ≤ 140737488355328) (hs : s.size ≤ 140737488355328) :
    Calls Tryd.prog 8 #[.string key, .string s, .int .i64 n] w fun e w' => e = .returned (.bool true) ∧ Below w.heap.size w w' := by
  have H0 := Lib.hid (And.intro hT (And.intro h (And.intro hk hs)))
  have HB := Lib.hid ((Below.refl w.heap.size w).alloc (Nat.le_refl _) (.cells #[.string key, .string s] 9))
  clear hT h hk hs
  go_enter Tryd.func8, Tryd.ntmps8
  go_wp2_with fail
  refine (small_no key s _ (two0 w key s) (two1 w key s) H0.out.2.1 H0.out.2.2.1 H0.out.2.2.2).mono ?_
  rintro e w1 ⟨rfl, rfl⟩
  simp only []
  go_wp2_with fail
  refine (alive7_any _ (H0.out.1.more HB.out)).mono ?_
  rintro e v2 ⟨rfl, B2⟩
  have H2 := Lib.hid (HB.out.trans (B2.mono HB.out.size))
  clear B2
  simp only []
  go_wp2_with fail
  go_ret
  exact ⟨rfl, H2.out⟩
set_option maxHeartbeats 8000000 in
theorem keys_mid (key s : ByteArray) (n : Int) (w : World) (hT : Tab w) (h : key.size + s.size ≤ 2048) (h1 : 512 < n) (h2 : n ≤ 8160) :
    Calls Tryd.prog 8 #[.string key, .string s, .int .i64 n] w fun e w' => e = .returned (.bool true) ∧ Below w.heap.size w w' := by
  have H0 := Lib.hid (And.intro hT (And.intro h (le2048 h)))
  have HB := Lib.hid ((Below.refl w.heap.size w).alloc (Nat.le_refl _) (.cells #[.string key, .string s] 9))
  clear hT h
  go_enter Tryd.func8, Tryd.ntmps8
  go_wp2_with fail
  refine (small_yes key s _ (two0 w key s) (two1 w key s) H0.out.2.1).mono ?_
  rintro e w1 ⟨rfl, rfl⟩
  simp only []
  go_wp2_with fail
  refine (alive7_any _ (H0.out.1.more HB.out)).mono ?_
  rintro e v2 ⟨rfl, B2⟩
  have H2 := Lib.hid (HB.out.trans (B2.mono HB.out.size))
  clear B2
  simp only []
  go_wp2_with fail
  go_ret
  exact ⟨rfl, H2.out⟩
set_option maxHeartbeats 8000000 in
theorem keys_neg (key s : ByteArray) (n : Int) (w : World) (hT : Tab w) (h : key.size + s.size ≤ 2048) (h1 : n < 0) :
    Calls Tryd.prog 8 #[.string key, .string s, .int .i64 n] w fun e w' => e = .returned (.bool true) ∧ Below w.heap.size w w' := by
  have H0 := Lib.hid (And.intro hT (And.intro h (le2048 h)))
  have HB := Lib.hid ((Below.refl w.heap.size w).alloc (Nat.le_refl _) (.cells #[.string key, .string s] 9))
  have h2 : ¬ 512 < n := by omega
  have HBAD := Lib.hid (show n < 0 ∨ 0 ≤ n ∧ 8160 < n by omega)
  clear hT h
  go_enter Tryd.func8, Tryd.ntmps8
  go_wp2_with fail
  refine (small_yes key s _ (two0 w key s) (two1 w key s) H0.out.2.1).mono ?_
  rintro e w1 ⟨rfl, rfl⟩
  simp only []
  go_wp2_with fail
  refine (expand_bad key s n _ HBAD.out).mono ?_
  rintro e w2 ⟨rfl, rfl⟩
  simp only []
  go_wp2_with fail
  refine (refexpand_bad key s n _ HBAD.out).mono ?_
  rintro e w2 ⟨rfl, rfl⟩
  simp only []
  go_wp2_with fail
  refine (chain_bad key s n _ (bad_chain HBAD.out)).mono ?_
  rintro e w2 ⟨rfl, rfl⟩
  simp only []
  go_wp2_with fail
  refine (refchain_bad key s n _ (bad_chain HBAD.out)).mono ?_
  rintro e w2 ⟨rfl, rfl⟩
  simp only []
  go_wp2_with fail
  refine wp_loop_rounds 1 ?_
  rw [rounds_succ]
  go_wp2_with fail
  refine (alive7_any _ (H0.out.1.more HB.out)).mono ?_
  rintro e v2 ⟨rfl, B2⟩
  have H2 := Lib.hid (HB.out.trans (B2.mono HB.out.size))
  clear B2
  simp only []
  go_wp2_with fail
  go_ret
  exact ⟨rfl, H2.out⟩
set_option maxHeartbeats 8000000 in
theorem keys_big (key s : ByteArray) (n : Int) (w : World) (hT : Tab w) (h : key.size + s.size ≤ 2048) (h1 : 8160 < n) :
    Calls Tryd.prog 8 #[.string key, .string s, .int .i64 n] w fun e w' => e = .returned (.bool true) ∧ Below w.heap.size w w' := by
  have H0 := Lib.hid (And.intro hT (And.intro h (le2048 h)))
  have HB := Lib.hid ((Below.refl w.heap.size w).alloc (Nat.le_refl _) (.cells #[.string key, .string s] 9))
  have h2 : 512 < n := by omega
  have h3 : ¬ n ≤ 8160 := by omega
  have HBAD := Lib.hid (show n < 0 ∨ 0 ≤ n ∧ 8160 < n by omega)
  clear hT h
  go_enter Tryd.func8, Tryd.ntmps8
  go_wp2_with fail
  refine (small_yes key s _ (two0 w key s) (two1 w key s) H0.out.2.1).mono ?_
  rintro e w1 ⟨rfl, rfl⟩
  simp only []
  go_wp2_with fail
  refine (expand_bad key s n _ HBAD.out).mono ?_
  rintro e w2 ⟨rfl, rfl⟩
  simp only []
  go_wp2_with fail
  refine (refexpand_bad key s n _ HBAD.out).mono ?_
  rintro e w2 ⟨rfl, rfl⟩
  simp only []
  go_wp2_with fail
  refine (chain_bad key s n _ (bad_chain HBAD.out)).mono ?_
  rintro e w2 ⟨rfl, rfl⟩
  simp only []
  go_wp2_with fail
  refine (refchain_bad key s n _ (bad_chain HBAD.out)).mono ?_
  rintro e w2 ⟨rfl, rfl⟩
  simp only []
  go_wp2_with fail
  refine wp_loop_rounds 1 ?_
  rw [rounds_succ]
  go_wp2_with fail
  refine (alive7_any _ (H0.out.1.more HB.out)).mono ?_
  rintro e v2 ⟨rfl, B2⟩
  have H2 := Lib.hid (HB.out.trans (B2.mono HB.out.size))
  clear B2
  simp only []
  go_wp2_with fail
  go_ret
  exact ⟨rfl, H2.out⟩
set_option maxHeartbeats 8000000 in
theorem keys_few (key s : ByteArray) (n : Nat) (w : World) (hT : Tab w) (h : key.size + s.size ≤ 2048) (h1 : n ≤ 512) (h2 : ¬ (1 ≤ n ∧ n ≤ 3)) :
    Calls Tryd.prog 8 #[.string key, .string s, .int .i64 n] w fun e w' => e = .returned (.bool true) ∧ Below w.heap.size w w' := by
  have H0 := Lib.hid (And.intro hT (And.intro h (le2048 h)))
  have HB := Lib.hid ((Below.refl w.heap.size w).alloc (Nat.le_refl _) (.cells #[.string key, .string s] 9))
  obtain ⟨A, hA⟩ : ∃ A, A = expS key s n := ⟨_, rfl⟩
  have HA := Lib.hid hA
  have HNN := Lib.hid (show n ≤ 8160 by omega)
  have n1 : ¬ 512 < (n : Nat) := by omega
  clear hA
  have HBAD := Lib.hid (chain_case n h2)
  clear h1 h2
  clear hT h
  go_enter Tryd.func8, Tryd.ntmps8
  go_wp2_with fail
  refine (small_yes key s _ (two0 w key s) (two1 w key s) H0.out.2.1).mono ?_
  rintro e w1 ⟨rfl, rfl⟩
  simp only []
  go_wp2_with fail
  refine (expand_any key s n _ (H0.out.1.more HB.out) H0.out.2.2.1 H0.out.2.2.2.2 HNN.out).mono ?_
  rintro e v1 ⟨rfl, B1⟩
  rw [← HA.out]
  have H1 := Lib.hid (HB.out.trans (B1.mono HB.out.size))
  clear B1
  simp only []
  go_wp2_with fail
  refine (refexpand_any key s n _ H0.out.2.2.1 H0.out.2.2.2.2 HNN.out).mono ?_
  rintro e v2 ⟨rfl, B2⟩
  rw [← HA.out]
  have H2 := Lib.hid (H1.out.trans (B2.mono H1.out.size))
  clear B2
  simp only []
  go_wp2_with fail
  refine (chain_bad key s n _ HBAD.out).mono ?_
  rintro e w2 ⟨rfl, rfl⟩
  simp only []
  go_wp2_with fail
  refine (refchain_bad key s n _ HBAD.out).mono ?_
  rintro e w2 ⟨rfl, rfl⟩
  simp only []
  go_wp2_with fail
  refine wp_loop_rounds 1 ?_
  rw [rounds_succ]
  go_wp2_with fail
  refine (alive7_any _ (H0.out.1.more H2.out)).mono ?_
  rintro e v3 ⟨rfl, B3⟩
  have H3 := Lib.hid (H2.out.trans (B3.mono H2.out.size))
  clear B3
  simp only []
  go_wp2_with fail
  go_ret
  exact ⟨rfl, H3.out⟩
/-- The links of a chain lie in a row. -/
def LinkAt (key s : ByteArray) (n g : Nat) (w : World) : Prop := ∀ i, i < n → w.cell? ⟨g, i, none⟩ = some (.string (linkS key s n i))
set_option maxHeartbeats 8000000 in
theorem keys_some (key s : ByteArray) (n : Nat) (w : World) (hT : Tab w) (h : key.size + s.size ≤ 2048) (h1 : 1 ≤ n ∧ n ≤ 3) :
    Calls Tryd.prog 8 #[.string key, .string s, .int .i64 n] w fun e w' => e = .returned (.bool true) ∧ Below w.heap.size w w' := by
  have H0 := Lib.hid (And.intro hT (And.intro h (le2048 h)))
  have HB := Lib.hid ((Below.refl w.heap.size w).alloc (Nat.le_refl _) (.cells #[.string key, .string s] 9))
  obtain ⟨A, hA⟩ : ∃ A, A = expS key s n := ⟨_, rfl⟩
  have HA := Lib.hid hA
  have HNN := Lib.hid (show n ≤ 8160 by omega)
  have n1 : ¬ 512 < (n : Nat) := by omega
  clear hA
  have n2 : (1 : Int) ≤ n := by omega
  have H13 := Lib.hid h1
  clear h1
  clear hT h
  go_enter Tryd.func8, Tryd.ntmps8
  go_wp2_with fail
  refine (small_yes key s _ (two0 w key s) (two1 w key s) H0.out.2.1).mono ?_
  rintro e w1 ⟨rfl, rfl⟩
  simp only []
  go_wp2_with fail
  refine (expand_any key s n _ (H0.out.1.more HB.out) H0.out.2.2.1 H0.out.2.2.2.2 HNN.out).mono ?_
  rintro e v1 ⟨rfl, B1⟩
  rw [← HA.out]
  have H1 := Lib.hid (HB.out.trans (B1.mono HB.out.size))
  clear B1
  simp only []
  go_wp2_with fail
  refine (refexpand_any key s n _ H0.out.2.2.1 H0.out.2.2.2.2 HNN.out).mono ?_
  rintro e v2 ⟨rfl, B2⟩
  rw [← HA.out]
  have H2 := Lib.hid (H1.out.trans (B2.mono H1.out.size))
  clear B2
  simp only []
  go_wp2_with fail
  refine (chain_any key s n _ (H0.out.1.more H2.out) H0.out.2.2.1 H0.out.2.2.2.2 H13.out.1 H13.out.2).mono ?_
  rintro e v3 ⟨g, cap, rfl, hg, B3⟩
  have H3 := Lib.hid (And.intro hg (H2.out.trans (B3.mono H2.out.size)))
  clear B3 hg
  simp only []
  go_wp2_with fail
  refine (refchain_any key s n _ H0.out.2.2.1 H0.out.2.2.2.2 H13.out.1 H13.out.2).mono ?_
  rintro e v4 ⟨g2, cap2, rfl, hg2, B4⟩
  have hg := fun i hi => (B4.cell (p := ⟨g, i, none⟩) (World.block_lt_of_cell? _ _ (H3.out.1 i hi))).trans (H3.out.1 i hi)
  have H4 := Lib.hid (And.intro hg (And.intro hg2 (H3.out.2.trans (B4.mono H3.out.2.size))))
  clear B4 hg hg2
  simp only []
  go_wp2_with fail
  go_loopw [15] (fun i wr => ∃ z : Nat, z ≤ n ∧ i = .int .i64 z ∧ LinkAt key s n g wr ∧ LinkAt key s n g2 wr ∧ Below w.heap.size w wr) (fun i _ => n - (intOf i).toNat)
  case atStart => exact ⟨0, Nat.zero_le _, rfl, H4.out.1, H4.out.2.1, H4.out.2.2⟩
  case round =>
    obtain ⟨z, hz, rfl, L1, L2, B⟩ := hrel
    have HR := Lib.hid (And.intro L1 (And.intro L2 B))
    clear L1 L2 B
    by_cases hlt : z < n
    · have l1 : (z : Int) < n := Int.ofNat_lt.2 hlt
      have l0 : (0 : Int) ≤ z := by omega
      have c1 := HR.out.1 z hlt
      have c2 := HR.out.2.1 z hlt
      obtain ⟨L, hL⟩ : ∃ L, L = linkS key s n z := ⟨_, rfl⟩
      rw [← hL] at c1 c2
      have d1 : wr.drew.cell? ⟨g, z, none⟩ = some (.string L) := c1
      have d2 : wr.drew.cell? ⟨g2, z, none⟩ = some (.string L) := c2
      have HZ := Lib.hid hlt
      clear hL hlt
      go_wp2_with fail
      go_still (by kernel_rfl)
      go_wp2_with fail
      go_roundw
      case rel => exact ⟨z + 1, HZ.out, succI z, HR.out.1, HR.out.2.1, HR.out.2.2.drew⟩
      case measure => exact measI n z HZ.out
    · have l1 : ¬ (z : Int) < n := nltI hlt
      clear hlt hz
      go_wp2_with fail
      refine (alive7_any _ (H0.out.1.more HR.out.2.2)).mono ?_
      rintro e v5 ⟨rfl, B5⟩
      have H5 := Lib.hid (HR.out.2.2.trans (B5.mono HR.out.2.2.size))
      clear B5
      simp only []
      go_wp2_with fail
      go_ret
      exact ⟨rfl, H5.out⟩
theorem keys_walk (key s : ByteArray) (n : Int) (w : World) (hT : Tab w) (hk : key.size ≤ 140737488355328) (hs : s.size ≤ 140737488355328) :
    Calls Tryd.prog 8 #[.string key, .string s, .int .i64 n] w fun e w' => e = .returned (.bool true) ∧ Below w.heap.size w w' := by
  by_cases h : key.size + s.size ≤ 2048
  · by_cases h1 : n < 0
    · exact keys_neg key s n w hT h h1
    · by_cases h2 : 8160 < n
      · exact keys_big key s n w hT h h2
      · by_cases h3 : 512 < n
        · exact keys_mid key s n w hT h h3 (by omega)
        · obtain ⟨m, rfl⟩ := Int.eq_ofNat_of_zero_le (show 0 ≤ n by omega)
          by_cases h4 : 1 ≤ m ∧ m ≤ 3
          · exact keys_some key s m w hT h h4
          · exact keys_few key s m w hT h (by omega) h4
  · exact keys_long key s n w hT h hk hs

end Go.Proofs.YtfminodongcelaaDoor
