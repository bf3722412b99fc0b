/-
  Fewer bytes are the beginning of more: the statement's walk.
-/
import Derived.Test.YtfminodongcelaaDoorKeysWalk
set_option linter.unusedVariables false
set_option linter.unusedSimpArgs false
namespace Go.Proofs.YtfminodongcelaaDoor
open Go.RowKit
open Go.Lib (strCells)

/-! ### Plain. -/
theorem ext_ext (a : ByteArray) (i j k : Nat) (h : k ≤ j) : (a.extract 0 j).extract i k = a.extract i k := by
  apply ByteArray.ext
  simp only [ByteArray.data_extract, Array.extract_extract]
  congr 1
  · omega
  · omega
theorem ext_app (a b : ByteArray) (i k : Nat) (h : k ≤ a.size) : (a ++ b).extract i k = a.extract i k := by
  apply ByteArray.ext
  have hd : a.data.size = a.size := rfl
  simp only [ByteArray.data_extract, ByteArray.data_append]
  apply Array.ext
  · simp; omega
  · intro j h1 h2
    simp only [Array.getElem_extract]
    have hj : j < k - i := by simp at h2; omega
    rw [Array.getElem_append_left (by omega)]
theorem outT_ext (key info : ByteArray) (i k : Nat) : ∀ R r : Nat, r ≤ R → k ≤ 32 * r → (outT key info R).extract i k = (outT key info r).extract i k
  | 0, r, h, _ => by
    have : r = 0 := by omega
    subst this
    rfl
  | R + 1, r, h, hk => by
    by_cases e : r = R + 1
    · subst e; rfl
    · show (outT key info R ++ lastT key info (R + 1)).extract i k = _
      rw [ext_app _ _ _ _ (by rw [outT_size]; omega)]
      exact outT_ext key info i k R r (by omega) hk
theorem expN_le {n m : Nat} (h : n ≤ m) : expN n ≤ expN m := by unfold expN; omega
theorem expN_ge (n : Nat) : n ≤ 32 * expN n := by unfold expN; omega
/-- Fewer bytes are the beginning of more. -/
theorem expS_begin (key info : ByteArray) (n m : Nat) : (expS key info (n + m)).extract 0 n = expS key info n := by
  unfold expS
  rw [ext_ext _ _ _ _ (Nat.le_add_right n m), outT_ext key info 0 n (expN (n + m)) (expN n) (expN_le (Nat.le_add_right n m)) (expN_ge n)]
/-- A link does not hang on how many are asked for. -/
theorem linkS_same (key s : ByteArray) {n m i : Nat} (hn : i < n) (hm : i < m) (h : n ≤ m) : linkS key s n i = linkS key s m i := by
  unfold linkS expS
  rw [ext_ext _ _ _ _ (by omega), ext_ext _ _ _ _ (by omega), outT_ext _ _ _ _ (expN (32 * m)) (expN (32 * n)) (expN_le (by omega)) (by have := expN_ge (32 * n); omega)]

theorem i64_and511 (n : Int) : bits .and .i64 n 511 = n % 512 := by
  have h127 : (BitVec.ofInt 64 511).toNat = 2 ^ 9 - 1 := by decide
  have key : (BitVec.ofInt 64 n &&& BitVec.ofInt 64 511).toNat = (n % ((2 ^ 64 : Nat) : Int)).toNat % 2 ^ 9 := by
    rw [BitVec.toNat_and, BitVec.toNat_ofInt, h127, Nat.and_two_pow_sub_one_eq_mod]
  show IntKind.i64.wrap ((BitVec.ofInt 64 n &&& BitVec.ofInt 64 511).toNat : Nat) = n % 512
  rw [key, IntKind.wrap_i64]
  omega
theorem and_in (n : Int) : ∃ m : Nat, bits .and .i64 n 511 = m ∧ m < 512 := by
  refine ⟨(n % 512).toNat, ?_, by omega⟩
  rw [i64_and511]; omega
theorem sumI {N M : Nat} (h1 : N < 512) (h2 : M < 512) : ∃ S : Nat, S = N + M ∧ (N : Int) + M = S ∧ IntKind.i64.wrap (S : Int) = S ∧ wrap64 (S : Int) = S ∧ S ≤ 8160 ∧ (0 : Int) ≤ N ∧ (N : Int) ≤ S ∧ N ≤ S ∧ N ≤ 8160 := by
  refine ⟨N + M, rfl, by omega, IntWalk.i64_in _ (by omega), by unfold wrap64; omega, by omega⟩

set_option maxHeartbeats 8000000 in
theorem begins_long (key s : ByteArray) (n m : Int) (w : World) (hT : Tab w) (h : ¬ key.size + s.size ≤ 2048) (hk : key.size ≤ 140737488355328) (hs : s.size ≤ 140737488355328) :
    Calls Tryd.prog 9 #[.string key, .string s, .int .i64 n, .int .i64 m] w fun e w' => e = .returned (.bool true) ∧ Below w.heap.size w w' := by
  have H0 := Lib.hid (And.intro hT (And.intro h (And.intro hk hs)))
  have HB := Lib.hid ((Below.refl w.heap.size w).alloc (Nat.le_refl _) (.cells #[.string key, .string s] 9))
  obtain ⟨N, eN, hN⟩ := and_in n
  obtain ⟨M, eM, hM⟩ := and_in m
  clear hT h hk hs hN hM
  go_enter Tryd.func9, Tryd.ntmps9
  go_wp2_with fail
  refine (small_no key s _ (two0 w key s) (two1 w key s) H0.out.2.1 H0.out.2.2.1 H0.out.2.2.2).mono ?_
  rintro e w1 ⟨rfl, rfl⟩
  simp only []
  go_wp2_with fail
  refine (alive7_any _ (H0.out.1.more HB.out)).mono ?_
  rintro e v2 ⟨rfl, B2⟩
  have H2 := Lib.hid (HB.out.trans (B2.mono HB.out.size))
  clear B2
  simp only []
  go_wp2_with fail
  go_ret
  exact ⟨rfl, H2.out⟩
set_option maxHeartbeats 16000000 in
set_option maxRecDepth 100000 in
theorem begins_yes (key s : ByteArray) (n m : Int) (w : World) (hT : Tab w) (h : key.size + s.size ≤ 2048) :
    Calls Tryd.prog 9 #[.string key, .string s, .int .i64 n, .int .i64 m] w fun e w' => e = .returned (.bool true) ∧ Below w.heap.size w w' := by
  have H0 := Lib.hid (And.intro hT (And.intro h (le2048 h)))
  have HB := Lib.hid ((Below.refl w.heap.size w).alloc (Nat.le_refl _) (.cells #[.string key, .string s] 9))
  obtain ⟨N, eN, hN⟩ := and_in n
  obtain ⟨M, eM, hM⟩ := and_in m
  obtain ⟨S, hS, s1, s2, s3, s4, s5, s6, s7, s8⟩ := sumI hN hM
  obtain ⟨A, hA⟩ : ∃ A, A = expS key s N := ⟨_, rfl⟩
  obtain ⟨C, hC⟩ : ∃ A, A = expS key s S := ⟨_, rfl⟩
  have hAs : A.size = N := by rw [hA]; exact expS_size _ _ _
  have hCs : C.size = S := by rw [hC]; exact expS_size _ _ _
  have hpre : C.extract 0 N = A := by rw [hC, hA, hS]; exact expS_begin _ _ _ _
  have l1 : (N : Int) ≤ C.size := by rw [hCs]; exact s6
  have HA := Lib.hid (And.intro hA (And.intro hC (And.intro s4 s8)))
  have eA : (A.size : Int) = N := by rw [hAs]
  have eC : (C.size : Int) = S := by rw [hCs]
  have hsl : ∀ u, (Instr.slice 9 (.string C) none (some (.int .i64 N)) none).run Tryd.prog u = .ok (.string A) u := fun u => by
    rw [run_slice_string_to_if u 9 C .i64 N und9, if_pos ⟨s5, l1⟩, Int.toNat_natCast, hpre]
  clear hT h hN hM hS hA hC hAs hCs hpre s4 s6 s7 s8 l1
  go_enter Tryd.func9, Tryd.ntmps9
  go_wp2_with fail
  refine (small_yes key s _ (two0 w key s) (two1 w key s) H0.out.2.1).mono ?_
  rintro e w1 ⟨rfl, rfl⟩
  simp only []
  go_wp2_with fail
  refine (expand_any key s N _ (H0.out.1.more HB.out) H0.out.2.2.1 H0.out.2.2.2.2 HA.out.2.2.2).mono ?_
  rintro e v1 ⟨rfl, B1⟩
  rw [← HA.out.1]
  have H1 := Lib.hid (HB.out.trans (B1.mono HB.out.size))
  clear B1
  simp only []
  go_wp2_with fail
  refine (expand_any key s S _ (H0.out.1.more H1.out) H0.out.2.2.1 H0.out.2.2.2.2 HA.out.2.2.1).mono ?_
  rintro e v2 ⟨rfl, B2⟩
  rw [← HA.out.2.1]
  have H2 := Lib.hid (H1.out.trans (B2.mono H1.out.size))
  clear B2
  simp only []
  go_wp2_with fail
  refine (chain_any key s 3 _ (H0.out.1.more H2.out) H0.out.2.2.1 H0.out.2.2.2.2 (by decide) (by decide)).mono ?_
  rintro e v3 ⟨g, cap, rfl, hg, B3⟩
  have H3 := Lib.hid (And.intro (show LinkAt key s 3 g v3 from hg) (H2.out.trans (B3.mono H2.out.size)))
  clear B3 hg hsl eA eC s1 s2 s3 s5
  simp only []
  go_wp2_with fail
  go_loopw [15] (fun i wr => ∃ k : Nat, 1 ≤ k ∧ k ≤ 3 ∧ i = .int .i64 k ∧ LinkAt key s 3 g wr ∧ Below w.heap.size w wr) (fun i _ => 3 - (intOf i).toNat)
  case atStart => exact ⟨1, by decide, by decide, rfl, H3.out⟩
  case round =>
    obtain ⟨k, hk1, hk3, rfl, L0, B0⟩ := hrel
    have HR := Lib.hid (And.intro L0 (And.intro B0 (And.intro hk1 hk3)))
    clear L0 B0
    by_cases hlt : k < 3
    · have l1 : (k : Int) < 3 := by omega
      have HK := Lib.hid hlt
      clear hlt hk1 hk3
      go_wp2_with fail
      refine (chain_any key s k _ (H0.out.1.more HR.out.2.1) H0.out.2.2.1 H0.out.2.2.2.2 HR.out.2.2.1 HR.out.2.2.2).mono ?_
      rintro e v4 ⟨g2, cap2, rfl, hg2, B4⟩
      have hg : LinkAt key s 3 g v4 := fun i hi => (B4.cell (p := ⟨g, i, none⟩) (World.block_lt_of_cell? _ _ (HR.out.1 i hi))).trans (HR.out.1 i hi)
      have H4 := Lib.hid (And.intro hg (And.intro (show LinkAt key s k g2 v4 from hg2) (HR.out.2.1.trans (B4.mono HR.out.2.1.size))))
      clear B4 hg hg2
      simp only []
      go_wp2_with fail
      obtain ⟨wo, rfl⟩ : ∃ wo : World, wo = wr := ⟨_, rfl⟩
      go_loopw [18] (fun i wi => ∃ z : Nat, z ≤ k ∧ i = .int .i64 z ∧ LinkAt key s 3 g wi ∧ LinkAt key s k g2 wi ∧ Below w.heap.size w wi) (fun i _ => k - (intOf i).toNat)
      case atStart => exact ⟨0, Nat.zero_le _, rfl, H4.out.1, H4.out.2.1, H4.out.2.2⟩
      case round =>
        obtain ⟨z, hz, rfl, L1, L2, B⟩ := hrel
        have HI := Lib.hid (And.intro L1 (And.intro L2 B))
        clear L1 L2 B
        by_cases hzk : z < k
        · have l2 : (z : Int) < k := Int.ofNat_lt.2 hzk
          have l3 : (z : Int) < 3 := by have := HR.out.2.2.2; omega
          have l0 : (0 : Int) ≤ z := by omega
          have hz3 : z < 3 := by have := HR.out.2.2.2; omega
          have c1 := HI.out.2.1 z hzk
          have c2 := HI.out.1 z hz3
          rw [linkS_same key s hzk hz3 HR.out.2.2.2] at c1
          obtain ⟨L, hL⟩ : ∃ L, L = linkS key s 3 z := ⟨_, rfl⟩
          rw [← hL] at c1 c2
          have d1 : wr.drew.cell? ⟨g2, z, none⟩ = some (.string L) := c1
          have d2 : wr.drew.cell? ⟨g, z, none⟩ = some (.string L) := c2
          have HZ := Lib.hid hzk
          clear hL hzk hz3
          go_wp2_with fail
          go_still (by kernel_rfl)
          go_wp2_with fail
          go_roundw
          case rel => exact ⟨z + 1, HZ.out, succI z, HI.out.1, HI.out.2.1, HI.out.2.2.drew⟩
          case measure => exact measI k z HZ.out
        · have l2 : ¬ (z : Int) < k := nltI hzk
          clear hzk hz
          go_wp2_with fail
          go_roundw
          case rel => exact ⟨k + 1, by omega, HK.out, succI k, HI.out.1, HI.out.2.2⟩
          case measure => exact measI 3 k HK.out
    · have l1 : ¬ (k : Int) < 3 := by omega
      clear hlt hk1 hk3
      go_wp2_with fail
      refine (alive7_any _ (H0.out.1.more HR.out.2.1)).mono ?_
      rintro e v5 ⟨rfl, B5⟩
      have H5 := Lib.hid (HR.out.2.1.trans (B5.mono HR.out.2.1.size))
      clear B5
      simp only []
      go_wp2_with fail
      go_ret
      exact ⟨rfl, H5.out⟩
theorem begins_walk (key s : ByteArray) (n m : Int) (w : World) (hT : Tab w) (hk : key.size ≤ 140737488355328) (hs : s.size ≤ 140737488355328) :
    Calls Tryd.prog 9 #[.string key, .string s, .int .i64 n, .int .i64 m] w fun e w' => e = .returned (.bool true) ∧ Below w.heap.size w w' := by
  by_cases h : key.size + s.size ≤ 2048
  · exact begins_yes key s n m w hT h
  · exact begins_long key s n m w hT h hk hs

end Go.Proofs.YtfminodongcelaaDoor
