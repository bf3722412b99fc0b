/-
  What the tag of a text by a key is: the statement's walk.
-/
import Derived.Test.YtfminodongcelaaDoorAlive7
set_option linter.unusedVariables false
set_option linter.unusedSimpArgs false
namespace Go.Proofs.YtfminodongcelaaDoor
open Go.RowKit
open Go.Lib (strCells)


theorem two0 (w : World) (x y : ByteArray) : (w.alloc (.cells #[.string x, .string y] 9)).cell? ⟨w.heap.size, 0, none⟩ = some (.string x) := by
  unfold World.cell?
  rw [heap_alloc_last]
  rfl
theorem two1 (w : World) (x y : ByteArray) : (w.alloc (.cells #[.string x, .string y] 9)).cell? ⟨w.heap.size, 1, none⟩ = some (.string y) := by
  unfold World.cell?
  rw [heap_alloc_last]
  rfl
theorem le2048 {a b : Nat} (h : a + b ≤ 2048) : a ≤ 10000 ∧ b ≤ 10000 ∧ b ≤ 9000 := by omega
set_option maxHeartbeats 8000000 in
theorem tags_no (key s : ByteArray) (w : World) (hT : Tab w) (h : ¬ key.size + s.size ≤ 2048) (hk : key.size ≤ 140737488355328) (hs : s.size ≤ 140737488355328) :
    Calls Tryd.prog 7 #[.string key, .string s] w fun e w' => e = .returned (.bool true) ∧ Below w.heap.size w w' := by
  have H0 := Lib.hid (And.intro hT (And.intro h (And.intro hk hs)))
  have HB := Lib.hid ((Below.refl w.heap.size w).alloc (Nat.le_refl _) (.cells #[.string key, .string s] 9))
  clear hT h hk hs
  go_enter Tryd.func7, Tryd.ntmps7
  go_wp2_with fail
  refine (small_no key s _ (two0 w key s) (two1 w key s) H0.out.2.1 H0.out.2.2.1 H0.out.2.2.2).mono ?_
  rintro e w1 ⟨rfl, rfl⟩
  simp only []
  go_wp2_with fail
  refine (alive7_any _ (H0.out.1.more HB.out)).mono ?_
  rintro e w2 ⟨rfl, B2⟩
  have H2 := Lib.hid (HB.out.trans (B2.mono HB.out.size))
  clear B2
  simp only []
  go_wp2_with fail
  go_ret
  exact ⟨rfl, H2.out⟩
set_option maxHeartbeats 8000000 in
theorem tags_yes (key s : ByteArray) (w : World) (hT : Tab w) (h : key.size + s.size ≤ 2048) :
    Calls Tryd.prog 7 #[.string key, .string s] w fun e w' => e = .returned (.bool true) ∧ Below w.heap.size w w' := by
  have H0 := Lib.hid (And.intro hT (And.intro h (le2048 h)))
  have HB := Lib.hid ((Below.refl w.heap.size w).alloc (Nat.le_refl _) (.cells #[.string key, .string s] 9))
  obtain ⟨T, hTT⟩ : ∃ T, T = hmacS key s := ⟨_, rfl⟩
  have HT := Lib.hid hTT
  clear hT h hTT
  go_enter Tryd.func7, Tryd.ntmps7
  go_wp2_with fail
  refine (small_yes key s _ (two0 w key s) (two1 w key s) H0.out.2.1).mono ?_
  rintro e w1 ⟨rfl, rfl⟩
  simp only []
  go_wp2_with fail
  refine (hmac_any key s _ (H0.out.1.more HB.out) H0.out.2.2.2.1 H0.out.2.2.1).mono ?_
  rintro e v1 ⟨rfl, B1⟩
  rw [← HT.out]
  have H1 := Lib.hid (HB.out.trans (B1.mono HB.out.size))
  clear B1
  simp only []
  go_wp2_with fail
  refine (refhmac_any key s _ H0.out.2.2.2.1 H0.out.2.2.1).mono ?_
  rintro e v2 ⟨rfl, B2⟩
  rw [← HT.out]
  have H2 := Lib.hid (H1.out.trans (B2.mono H1.out.size))
  clear B2
  simp only []
  go_wp2_with fail
  refine (extract_any key s _ (H0.out.1.more H2.out) H0.out.2.2.2.1 H0.out.2.2.1).mono ?_
  rintro e v3 ⟨rfl, B3⟩
  rw [← HT.out]
  have H3 := Lib.hid (H2.out.trans (B3.mono H2.out.size))
  clear B3
  simp only []
  go_wp2_with fail
  refine (refhmac_any key s _ H0.out.2.2.2.1 H0.out.2.2.1).mono ?_
  rintro e v4 ⟨rfl, B4⟩
  rw [← HT.out]
  have H4 := Lib.hid (H3.out.trans (B4.mono H3.out.size))
  clear B4
  simp only []
  go_wp2_with fail
  refine (alive7_any _ (H0.out.1.more H4.out)).mono ?_
  rintro e v5 ⟨rfl, B5⟩
  have H5 := Lib.hid (H4.out.trans (B5.mono H4.out.size))
  clear B5
  simp only []
  go_wp2_with fail
  go_ret
  exact ⟨rfl, H5.out⟩
theorem tags_walk (key s : ByteArray) (w : World) (hT : Tab w) (hk : key.size ≤ 140737488355328) (hs : s.size ≤ 140737488355328) :
    Calls Tryd.prog 7 #[.string key, .string s] w fun e w' => e = .returned (.bool true) ∧ Below w.heap.size w w' := by
  by_cases h : key.size + s.size ≤ 2048
  · exact tags_yes key s w hT h
  · exact tags_no key s w hT h hk hs

end Go.Proofs.YtfminodongcelaaDoor
