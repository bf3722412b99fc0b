/-
  What the sum of a text is, of any size, by any key: the statement's walk.
-/
import Derived.Test.YtfminodongcelaaDoorRefSum
set_option linter.unusedVariables false
namespace Go.Proofs.YtfminodongcelaaDoor
open Go.RowKit
open Go.Lib (strCells)

theorem refhash_any (size : Nat) (key s : ByteArray) (w : World) (h1 : 1 ≤ size) (h32 : size ≤ 32) (hk : key.size ≤ 32) (hs : s.size ≤ 100000) :
    Calls Tryd.prog 14 #[.int .i64 size, .string key, .string s] w fun e w' => e = .returned (.string (hashS size key s)) ∧ Below w.heap.size w w' := by
  refine (refsum_any size key s w h1 h32 hk hs).mono ?_
  rintro e w1 ⟨rfl, B1⟩
  exact ⟨by rw [hashS_ref], B1⟩
set_option maxHeartbeats 4000000 in
theorem refof_any (s : ByteArray) (w : World) (hs : s.size ≤ 100000) :
    Calls Tryd.prog 16 #[.string s] w fun e w' => e = .returned (.string (hashS 32 .empty s)) ∧ Below w.heap.size w w' := by
  go_enter Tryd.func16, Tryd.ntmps16
  go_wp2_with fail
  refine (refhash_any 32 .empty s w (by decide) (by decide) (by decide) hs).mono ?_
  rintro e w1 ⟨rfl, B1⟩
  simp only []
  go_wp2_with fail
  go_ret
  exact ⟨rfl, B1⟩
set_option maxHeartbeats 4000000 in
theorem may_yes (size : Int) (key : ByteArray) (w : World) (h : may size key) :
    Calls Tryd.prog 13 #[.int .i64 size, .string key] w fun e w' => e = .returned (.bool true) ∧ w' = w := by
  obtain ⟨h1, h2, h3⟩ := h
  have h4 : (key.size : Int) ≤ 32 := by omega
  go_enter Tryd.func13, Tryd.ntmps13
  go_wp2_with fail
  go_ret
  exact ⟨rfl, rfl⟩
set_option maxHeartbeats 4000000 in
theorem may_no (size : Int) (key : ByteArray) (w : World) (h : ¬ may size key) :
    Calls Tryd.prog 13 #[.int .i64 size, .string key] w fun e w' => e = .returned (.bool false) ∧ w' = w := by
  by_cases h1 : 1 ≤ size
  · by_cases h2 : size ≤ 32
    · have h3 : ¬ (key.size : Int) ≤ 32 := by unfold may at h; omega
      clear h
      go_enter Tryd.func13, Tryd.ntmps13
      go_wp2_with fail
      go_ret
      exact ⟨rfl, rfl⟩
    · clear h
      go_enter Tryd.func13, Tryd.ntmps13
      go_wp2_with fail
      go_ret
      exact ⟨rfl, rfl⟩
  · clear h
    go_enter Tryd.func13, Tryd.ntmps13
    go_wp2_with fail
    go_ret
    exact ⟨rfl, rfl⟩

theorem le4096 {n : Nat} (h : n ≤ 4096) : ¬ (4096 : Int) < n ∧ n ≤ 100000 ∧ n ≤ maxLen := by unfold maxLen; omega
theorem gt4096 {n : Nat} (h : ¬ n ≤ 4096) : (4096 : Int) < n := by omega
theorem may_nat {size : Int} {key : ByteArray} (h : may size key) : ∃ n : Nat, size = n ∧ 1 ≤ n ∧ n ≤ 32 ∧ key.size ≤ 32 := by
  obtain ⟨h1, h2, h3⟩ := h
  exact ⟨size.toNat, by omega, by omega, by omega, h3⟩

set_option maxHeartbeats 8000000 in
theorem sums_long (size : Int) (key s : ByteArray) (w : World) (hT : Tab w) (h : ¬ key.size ≤ 4096 ∨ key.size ≤ 4096 ∧ ¬ s.size ≤ 4096) : Calls Tryd.prog 3 #[.int .i64 size, .string key, .string s] w fun e w' => e = .returned (.bool true) ∧ Below w.heap.size w w' := by
  have H0 := Lib.hid hT
  clear hT
  rcases h with h | ⟨h1, h⟩
  · have h := gt4096 h
    go_enter Tryd.func3, Tryd.ntmps3
    go_wp2_with fail
    refine (alive_any _ H0.out).mono ?_
    rintro e w1 ⟨rfl, B1⟩
    have H1 := Lib.hid B1
    clear B1
    simp only []
    go_wp2_with fail
    go_ret
    exact ⟨rfl, H1.out⟩
  · have h := gt4096 h
    have h1 := (le4096 h1).1
    go_enter Tryd.func3, Tryd.ntmps3
    go_wp2_with fail
    refine (alive_any _ H0.out).mono ?_
    rintro e w1 ⟨rfl, B1⟩
    have H1 := Lib.hid B1
    clear B1
    simp only []
    go_wp2_with fail
    go_ret
    exact ⟨rfl, H1.out⟩

set_option maxHeartbeats 8000000 in
theorem sums_no (size : Int) (key s : ByteArray) (w : World) (hT : Tab w) (hk : key.size ≤ 4096) (hs : s.size ≤ 4096) (hm : ¬ may size key) : Calls Tryd.prog 3 #[.int .i64 size, .string key, .string s] w fun e w' => e = .returned (.bool true) ∧ Below w.heap.size w w' := by
  have H0 := Lib.hid (And.intro hT hm)
  have h1 := (le4096 hk).1
  have h2 := (le4096 hs).1
  clear hT hm hk hs
  go_enter Tryd.func3, Tryd.ntmps3
  go_wp2_with fail
  refine (sum_bad size key s w H0.out.2).mono ?_
  rintro e w1 ⟨rfl, rfl⟩
  simp only []
  go_wp2_with fail
  refine (new_bad size key _ H0.out.2).mono ?_
  rintro e w1 ⟨rfl, rfl⟩
  simp only []
  go_wp2_with fail
  refine (may_no size key _ H0.out.2).mono ?_
  rintro e w1 ⟨rfl, rfl⟩
  simp only []
  go_wp2_with fail
  refine (alive_any _ H0.out.1).mono ?_
  rintro e w1 ⟨rfl, B1⟩
  have H1 := Lib.hid B1
  clear B1
  simp only []
  go_wp2_with fail
  go_ret
  exact ⟨rfl, H1.out⟩

set_option maxHeartbeats 8000000 in
theorem sums_yes (size : Nat) (key s : ByteArray) (w : World) (hT : Tab w) (hs : s.size ≤ 4096) (hm : 1 ≤ size ∧ size ≤ 32 ∧ key.size ≤ 32) : Calls Tryd.prog 3 #[.int .i64 size, .string key, .string s] w fun e w' => e = .returned (.bool true) ∧ Below w.heap.size w w' := by
  have H0 := Lib.hid (And.intro hT (And.intro hm (And.intro (le4096 hs).2.1 (le4096 hs).2.2)))
  have h1 := (le4096 (n := key.size) (by omega)).1
  have h2 := (le4096 hs).1
  have hmay : may size key := ⟨by omega, by omega, hm.2.2⟩
  have HM := Lib.hid hmay
  clear hT hm hs hmay
  go_enter Tryd.func3, Tryd.ntmps3
  go_wp2_with fail
  refine (sum_any size key s w H0.out.1 H0.out.2.1.1 H0.out.2.1.2.1 H0.out.2.1.2.2 H0.out.2.2.2).mono ?_
  rintro e w1 ⟨rfl, B1⟩
  obtain ⟨A, hA⟩ : ∃ A, A = hashS size key s := ⟨_, rfl⟩
  rw [← hA]
  have H1 := Lib.hid (And.intro hA B1)
  clear hA B1
  simp only []
  go_wp2_with fail
  refine (new_any size key _ (H0.out.1.more H1.out.2) H0.out.2.1.1 H0.out.2.1.2.1 H0.out.2.1.2.2).mono ?_
  rintro e w2 ⟨b, v, hb, rfl, _, B2⟩
  have H2 := Lib.hid (H1.out.2.trans (B2.mono H1.out.2.size))
  clear B2 hb
  simp only []
  go_wp2_with fail
  refine (may_yes size key _ HM.out).mono ?_
  rintro e w3 ⟨rfl, rfl⟩
  simp only []
  go_wp2_with fail
  refine (refhash_any size key s _ H0.out.2.1.1 H0.out.2.1.2.1 H0.out.2.1.2.2 H0.out.2.2.1).mono ?_
  rintro e w4 ⟨rfl, B4⟩
  rw [← H1.out.1]
  have H4 := Lib.hid (H2.out.trans (B4.mono H2.out.size))
  clear B4
  simp only []
  go_wp2_with fail
  refine (of_any s _ (H0.out.1.more H4.out) H0.out.2.2.2).mono ?_
  rintro e w5 ⟨rfl, B5⟩
  obtain ⟨C, hC⟩ : ∃ A, A = hashS 32 .empty s := ⟨_, rfl⟩
  rw [← hC]
  have H5 := Lib.hid (And.intro hC (H4.out.trans (B5.mono H4.out.size)))
  clear hC B5
  simp only []
  go_wp2_with fail
  refine (refof_any s _ H0.out.2.2.1).mono ?_
  rintro e w6 ⟨rfl, B6⟩
  rw [← H5.out.1]
  have H6 := Lib.hid (H5.out.2.trans (B6.mono H5.out.2.size))
  clear B6
  simp only []
  go_wp2_with fail
  refine (alive_any _ (H0.out.1.more H6.out)).mono ?_
  rintro e w7 ⟨rfl, B7⟩
  have H7 := Lib.hid (H6.out.trans (B7.mono H6.out.size))
  clear B7
  simp only []
  go_wp2_with fail
  go_ret
  exact ⟨rfl, H7.out⟩

theorem sums_walk (size : Int) (key s : ByteArray) (w : World) (hT : Tab w) : Calls Tryd.prog 3 #[.int .i64 size, .string key, .string s] w fun e w' => e = .returned (.bool true) ∧ Below w.heap.size w w' := by
  by_cases hk : key.size ≤ 4096
  · by_cases hs : s.size ≤ 4096
    · by_cases hm : may size key
      · obtain ⟨n, rfl, hn⟩ := may_nat hm
        exact sums_yes n key s w hT hs hn
      · exact sums_no size key s w hT hk hs hm
    · exact sums_long size key s w hT (Or.inr ⟨hk, hs⟩)
  · exact sums_long size key s w hT (Or.inl hk)

end Go.Proofs.YtfminodongcelaaDoor
