/-
  What no disk answers; the statements' small run (works).
-/
import Derived.Test.YtimoenlnkafhoaaCopy
set_option linter.unusedVariables false
namespace Go.Proofs.Ytimoenlnkafhoaa
open Go.RowKit
open Go.Lib (strCells)

theorem Did.below {d : Nat} {v : Value} {w w' : World} {x : DS} (h : Did d v.ownBlock w w' x) {B : Nat} (hd : B ≤ d) (hv : ∀ g, v.ownBlock = some g → B ≤ g) (hw : B ≤ w.heap.size) :
    ∃ v', DiskV w' d v' x ∧ (∀ g, v'.ownBlock = some g → B ≤ g) ∧ Below B w w' := by
  obtain ⟨v', h1, h2, h3⟩ := h
  refine ⟨v', h1, fun g hg => ?_, h3.below hd hv hw⟩
  rcases h2 g hg with h | h
  · exact hv g h
  · omega
theorem Below.then {B : Nat} {u v w : World} (h : Below B u v) (k : Below B v w) : Below B u w := h.trans k

theorem append_at {d : Nat} {v : Value} {x : DS} {t : ByteArray} {w : World} {e : Int} (he : x.putE t = e) (h : DiskV w d v x) (hm : t.size ≤ maxLen) :
    Calls Try.prog 11 #[.pointer (some ⟨d, 0, none⟩), .string t] w fun r w' => r = .returned (.int .i64 e) ∧ Did d v.ownBlock w w' (x.put t) := by
  subst he; exact append_any d v x t w h hm
theorem sync_at {d : Nat} {v : Value} {x : DS} {w : World} {e : Int} (he : x.flushE = e) (h : DiskV w d v x) :
    Calls Try.prog 12 #[.pointer (some ⟨d, 0, none⟩)] w fun r w' => r = .returned (.int .i64 e) ∧ Did d v.ownBlock w w' x.flush := by
  subst he; exact sync_any d v x w h
theorem loose_at {d : Nat} {v : Value} {x : DS} {w : World} {e : Int} (he : (x.S.size : Int) - x.k = e) (h : DiskV w d v x) :
    Calls Try.prog 16 #[.pointer (some ⟨d, 0, none⟩)] w fun r w' => r = .returned (.int .i64 e) ∧ DiskV w' d v x ∧ Fr d v.ownBlock w w' := by
  subst he
  refine (loose_any d v x w h).mono ?_
  rintro e w' ⟨rfl, n, rfl⟩
  exact ⟨rfl, h.drewN n, (Fr.refl _ _ _).drewN n⟩
theorem left_at' {d : Nat} {v : Value} {x : DS} {w : World} {e : Int} (he : (x.room : Int) - x.S.size = e) (h : DiskV w d v x) :
    Calls Try.prog 26 #[.pointer (some ⟨d, 0, none⟩)] w fun r w' => r = .returned (.int .i64 e) ∧ DiskV w' d v x ∧ Fr d v.ownBlock w w' := by
  subst he
  exact left_at h
theorem read_at {d : Nat} {v : Value} {x : DS} {w : World} {S : ByteArray} (he : x.S = S) (h : DiskV w d v x) :
    Calls Try.prog 14 #[.pointer (some ⟨d, 0, none⟩)] w fun r w' => r = .returned (.string S) ∧ w = w' := by
  subst he; exact read_any d v x w h

theorem works_any (w : World) : Calls Try.prog 9 #[] w fun e w' => e = .returned (.bool true) ∧ Below w.heap.size w w' := by
  go_enter Try.func9, Try.ntmps9
  go_wp2_with fail
  refine (new_any 4 _ (by decide)).mono ?_
  rintro e w1 ⟨rfl, h1, b1⟩
  simp only []
  have t1 : ∀ g, (Value.slice none 0 0).ownBlock = some g → w.heap.size ≤ g := fun g hg => by simp [Value.ownBlock] at hg
  go_wp2_with fail
  refine (append_at (e := 0) (by decide +kernel) h1 (by decide)).mono ?_
  rintro e w2 ⟨rfl, D⟩
  obtain ⟨v2, h2, t2, b2⟩ := D.below (Nat.le_refl _) t1 b1.size
  have b2 := b1.trans b2
  clear D h1 b1 t1
  simp only []
  go_wp2_with fail
  refine (sync_at (e := 0) (by decide +kernel) h2).mono ?_
  rintro e w3 ⟨rfl, D⟩
  obtain ⟨v3, h3, t3, b3⟩ := D.below (Nat.le_refl _) t2 b2.size
  have b3 := b2.trans b3
  clear D h2 b2 t2
  simp only []
  go_wp2_with fail
  refine (append_at (e := 0) (by decide +kernel) h3 (by decide)).mono ?_
  rintro e w4 ⟨rfl, D⟩
  obtain ⟨v4, h4, t4, b4⟩ := D.below (Nat.le_refl _) t3 b3.size
  have b4 := b3.trans b4
  clear D h3 b3 t3
  simp only []
  go_wp2_with fail
  refine (append_at (e := 6) (by decide +kernel) h4 (by decide)).mono ?_
  rintro e w5 ⟨rfl, D⟩
  obtain ⟨v5, h5, t5, b5⟩ := D.below (Nat.le_refl _) t4 b4.size
  have b5 := b4.trans b5
  clear D h4 b4 t4
  simp only []
  go_wp2_with fail
  refine (loose_at (e := 2) (by decide +kernel) h5).mono ?_
  rintro e w6 ⟨rfl, h6, f6⟩
  have b6 := b5.trans (f6.below (Nat.le_refl _) t5 b5.size)
  clear h5 b5 f6
  simp only []
  go_wp2_with fail
  refine (crash_any _ _ _ 1 _ h6).mono ?_
  rintro e w7 ⟨rfl, D⟩
  obtain ⟨v7, h7, t7, b7⟩ := D.below (Nat.le_refl _) t5 b6.size
  have b7 := b6.trans b7
  clear D h6 b6 t5
  simp only []
  go_wp2_with fail
  refine (read_at (S := ⟨#[97, 98, 99]⟩) (by decide +kernel) h7).mono ?_
  rintro e w8 ⟨rfl, rfl⟩
  simp only []
  go_wp2_with fail
  refine (left_at' (e := 1) (by decide +kernel) h7).mono ?_
  rintro e w8 ⟨rfl, h8, f8⟩
  have b8 := b7.trans (f8.below (Nat.le_refl _) t7 b7.size)
  clear h7 b7 f8
  simp only []
  go_wp2_with fail
  refine (loose_at (e := 0) (by decide +kernel) h8).mono ?_
  rintro e w9 ⟨rfl, h9, f9⟩
  have b9 := b8.trans (f9.below (Nat.le_refl _) t7 b8.size)
  simp only []
  go_wp2_with fail
  go_ret
  exact ⟨rfl, b9⟩

theorem append_nil (t : ByteArray) (w : World) : Calls Try.prog 11 #[.pointer none, .string t] w fun e w' => e = .returned (.int .i64 1) ∧ w = w' := by
  go_enter Try.func11, Try.ntmps11
  go_wp2
  go_ret
  exact ⟨rfl, rfl⟩

theorem sync_nil (w : World) : Calls Try.prog 12 #[.pointer none] w fun e w' => e = .returned (.int .i64 1) ∧ w = w' := by
  go_enter Try.func12, Try.ntmps12
  go_wp2
  go_ret
  exact ⟨rfl, rfl⟩

theorem cut_nil (n : Int) (w : World) : Calls Try.prog 17 #[.pointer none, .int .i64 n] w fun e w' => e = .returned (.int .i64 1) ∧ w = w' := by
  go_enter Try.func17, Try.ntmps17
  go_wp2
  go_ret
  exact ⟨rfl, rfl⟩

theorem fails_nil (n m : Int) (w : World) : Calls Try.prog 13 #[.pointer none, .int .i64 n, .int .i64 m] w fun e w' => e = .returned (.int .i64 1) ∧ w = w' := by
  go_enter Try.func13, Try.ntmps13
  go_wp2
  go_ret
  exact ⟨rfl, rfl⟩

theorem crash_nil (n : Int) (w : World) : Calls Try.prog 15 #[.pointer none, .int .i64 n] w fun e w' => e = .returned (.int .i64 1) ∧ w = w' := by
  go_enter Try.func15, Try.ntmps15
  go_wp2
  go_ret
  exact ⟨rfl, rfl⟩

theorem read_nil (w : World) : Calls Try.prog 14 #[.pointer none] w fun e w' => e = .returned (.string .empty) ∧ w = w' := by
  go_enter Try.func14, Try.ntmps14
  go_wp2
  go_ret
  exact ⟨rfl, rfl⟩

theorem size_nil (w : World) : Calls Try.prog 25 #[.pointer none] w fun e w' => e = .returned (.int .i64 0) ∧ w = w' := by
  go_enter Try.func25, Try.ntmps25
  go_wp2
  go_ret
  exact ⟨rfl, rfl⟩

theorem loose_nil (w : World) : Calls Try.prog 16 #[.pointer none] w fun e w' => e = .returned (.int .i64 0) ∧ w = w' := by
  go_enter Try.func16, Try.ntmps16
  go_wp2
  go_ret
  exact ⟨rfl, rfl⟩

theorem left_nil (w : World) : Calls Try.prog 26 #[.pointer none] w fun e w' => e = .returned (.int .i64 0) ∧ w = w' := by
  go_enter Try.func26, Try.ntmps26
  go_wp2
  go_ret
  exact ⟨rfl, rfl⟩

theorem copy_nil (w : World) : Calls Try.prog 23 #[.pointer none] w fun e w' => e = .returned (.pointer none) ∧ w = w' := by
  go_enter Try.func23, Try.ntmps23
  go_wp2
  go_ret
  exact ⟨rfl, rfl⟩

theorem same_nil (v : Value) (w : World) : Calls Try.prog 20 #[.pointer none, v] w fun e w' => e = .returned (.bool false) ∧ ∃ n, w' = w.drewN n := by
  go_enter Try.func20, Try.ntmps20
  go_wp2_with fail
  go_quiet (fail)
  go_wp2_with fail
  go_ret
  exact ⟨rfl, _, rfl⟩

theorem none_walk (s : ByteArray) (n : Int) (w : World) (hs : s.size ≤ 1024) : Calls Try.prog 7 #[.string s, .int .i64 n] w fun e w' => e = .returned (.bool true) ∧ Below w.heap.size w w' := by
  go_enter Try.func7, Try.ntmps7
  go_wp2_with fail
  refine (append_nil s _).mono ?_
  rintro e w1 ⟨rfl, rfl⟩
  simp only []
  go_wp2_with fail
  refine (sync_nil _).mono ?_
  rintro e w1 ⟨rfl, rfl⟩
  simp only []
  go_wp2_with fail
  refine (cut_nil n _).mono ?_
  rintro e w1 ⟨rfl, rfl⟩
  simp only []
  go_wp2_with fail
  refine (fails_nil n n _).mono ?_
  rintro e w1 ⟨rfl, rfl⟩
  simp only []
  go_wp2_with fail
  refine (crash_nil n _).mono ?_
  rintro e w1 ⟨rfl, rfl⟩
  simp only []
  go_wp2_with fail
  refine (read_nil _).mono ?_
  rintro e w1 ⟨rfl, rfl⟩
  simp only []
  go_wp2_with fail
  refine (size_nil _).mono ?_
  rintro e w1 ⟨rfl, rfl⟩
  simp only []
  go_wp2_with fail
  refine (loose_nil _).mono ?_
  rintro e w1 ⟨rfl, rfl⟩
  simp only []
  go_wp2_with fail
  refine (left_nil _).mono ?_
  rintro e w1 ⟨rfl, rfl⟩
  simp only []
  go_wp2_with fail
  refine (copy_nil _).mono ?_
  rintro e w1 ⟨rfl, rfl⟩
  simp only []
  go_wp2_with fail
  refine (same_nil _ _).mono ?_
  rintro e w1 ⟨rfl, k, rfl⟩
  simp only []
  go_wp2_with fail
  refine (works_any _).mono ?_
  rintro e w1 ⟨rfl, b1⟩
  simp only []
  go_wp2_with fail
  go_ret
  exact ⟨rfl, ⟨b1.os, b1.tape, b1.output, b1.size, b1.block⟩⟩
theorem none_big (s : ByteArray) (n : Int) (w : World) (hs : 1024 < s.size) (hm : s.size ≤ maxLen) : Calls Try.prog 7 #[.string s, .int .i64 n] w fun e w' => e = .returned (.bool true) ∧ Below w.heap.size w w' := by
  unfold maxLen at hm
  go_enter Try.func7, Try.ntmps7
  go_wp2_with fail
  refine (works_any _).mono ?_
  rintro e w1 ⟨rfl, b1⟩
  simp only []
  go_wp2_with fail
  go_ret
  exact ⟨rfl, b1⟩

end Go.Proofs.Ytimoenlnkafhoaa
