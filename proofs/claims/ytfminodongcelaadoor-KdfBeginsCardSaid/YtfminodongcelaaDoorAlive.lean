/-
  A text's sum; the statements' small run; what no hash answers.
-/
import Derived.Test.YtfminodongcelaaDoorMakes
set_option linter.unusedVariables false
namespace Go.Proofs.YtfminodongcelaaDoor
open Go.ChangeShapes Go.WideShapes Go.ChangeAt Go.RowKit
open Go.Lib (strCells)

def HSt.sum (x : HSt) (size : Nat) : ByteArray := digs (compress x.h (pad x.r) (w64 (x.n + x.r.size)) true) size
def hashS (size : Nat) (key s : ByteArray) : ByteArray := ((newS size key).add s).sum size

set_option maxHeartbeats 4000000 in
theorem sum_bad (size : Int) (key s : ByteArray) (w : World) (h : ¬ may size key) : Calls Tryd.prog 11 #[.int .i64 size, .string key, .string s] w fun e w' => e = .returned (.tuple #[.string .empty, .int .i64 2]) ∧ w' = w := by
  go_enter Tryd.func11, Tryd.ntmps11
  go_wp2_with fail
  refine (new_bad size key w h).mono ?_
  rintro e w1 ⟨rfl, rfl⟩
  simp only []
  go_wp2_with fail
  go_ret2
  exact ⟨rfl, rfl⟩

set_option maxHeartbeats 4000000 in
theorem sum_any (size : Nat) (key s : ByteArray) (w : World) (hT : Tab w) (h1 : 1 ≤ size) (h32 : size ≤ 32) (hk : key.size ≤ 32) (hs : s.size ≤ maxLen) :
    Calls Tryd.prog 11 #[.int .i64 size, .string key, .string s] w fun e w' => e = .returned (.tuple #[.string (hashS size key s), .int .i64 0]) ∧ Below w.heap.size w w' := by
  have H0 := Lib.hid (And.intro hT (And.intro h1 (And.intro h32 (And.intro hk hs))))
  clear hT h1 h32 hk hs
  go_enter Tryd.func11, Tryd.ntmps11
  go_wp2_with fail
  refine (new_any size key w H0.out.1 H0.out.2.1 H0.out.2.2.1 H0.out.2.2.2.1).mono ?_
  rintro e w1 ⟨b, v, hb, rfl, V1, B1⟩
  have H1 := Lib.hid (And.intro V1 (And.intro B1 hb))
  clear V1 B1 hb
  simp only []
  go_wp2_with fail
  refine (add_any w.heap.size s (H0.out.1.more H1.out.2.1) H1.out.1 H1.out.2.1.size H0.out.1.lt H1.out.2.2 (ne0 H0.out.2.1) H0.out.2.2.2.2).mono ?_
  rintro e w2 ⟨rfl, ⟨v2, V2⟩, B2⟩
  have H2 := Lib.hid (And.intro V2 (H1.out.2.1.trans B2))
  clear V2 B2
  simp only []
  go_wp2_with fail
  refine (hsum_any w.heap.size (H0.out.1.more H2.out.2) H2.out.1 H0.out.2.1 H0.out.2.2.1).mono ?_
  rintro e w3 ⟨rfl, B3⟩
  have H3 := Lib.hid (H2.out.2.trans (B3.mono H2.out.2.size))
  clear B3
  simp only []
  go_wp2_with fail
  go_ret2
  exact ⟨rfl, H3.out⟩

set_option maxHeartbeats 4000000 in
theorem of_any (s : ByteArray) (w : World) (hT : Tab w) (hs : s.size ≤ maxLen) :
    Calls Tryd.prog 15 #[.string s] w fun e w' => e = .returned (.string (hashS 32 .empty s)) ∧ Below w.heap.size w w' := by
  go_enter Tryd.func15, Tryd.ntmps15
  go_wp2_with fail
  refine (sum_any 32 .empty s w hT (by decide) (by decide) (by decide) hs).mono ?_
  rintro e w1 ⟨rfl, B1⟩
  simp only []
  go_wp2_with fail
  go_ret
  exact ⟨rfl, B1⟩

/-! ### The small run. -/
def abcB : ByteArray := ⟨#[97, 98, 99]⟩
theorem abc_word : at_ (compress ((newS 32 .empty).add abcB).h (pad ((newS 32 .empty).add abcB).r) (w64 (((newS 32 .empty).add abcB).n + ((newS 32 .empty).add abcB).r.size)) true) 0 = 2355006544 := by decide +kernel
theorem digs_size (h : List Nat) (n : Nat) : (digs h n).size = n := by show (((List.range n).map fun i => UInt8.ofNat (dig h i)).toArray).size = n; simp
theorem hashS_size (size : Nat) (key s : ByteArray) : (hashS size key s).size = size := digs_size _ _
theorem abc_head : (hashS 32 .empty abcB).extract 0 4 = ⟨#[80, 140, 94, 140]⟩ := by
  have h := abc_word
  apply ByteArray.ext
  rw [ByteArray.data_extract]
  unfold hashS HSt.sum digs
  obtain ⟨hh, hhe⟩ : ∃ hh, hh = compress ((newS 32 .empty).add abcB).h (pad ((newS 32 .empty).add abcB).r) (w64 (((newS 32 .empty).add abcB).n + ((newS 32 .empty).add abcB).r.size)) true := ⟨_, rfl⟩
  rw [← hhe] at h
  rw [← hhe]
  have d0 : dig hh 0 = 80 := by unfold dig; rw [h]
  have d1 : dig hh 1 = 140 := by unfold dig; rw [h]
  have d2 : dig hh 2 = 94 := by unfold dig; rw [h]
  have d3 : dig hh 3 = 140 := by unfold dig; rw [h]
  simp [List.range_succ, d0, d1, d2, d3]

set_option maxHeartbeats 8000000 in
theorem alive_any (w : World) (hT : Tab w) : Calls Tryd.prog 10 #[] w fun e w' => e = .returned (.bool true) ∧ Below w.heap.size w w' := by
  have H0 := Lib.hid hT
  clear hT
  go_enter Tryd.func10, Tryd.ntmps10
  go_wp2_with fail
  refine (of_any abcB w H0.out (by decide)).mono ?_
  rintro e w1 ⟨rfl, B1⟩
  have hhead := abc_head
  obtain ⟨A, hA⟩ : ∃ A, A = hashS 32 .empty abcB := ⟨_, rfl⟩
  have hsz2 : A.size = 32 := by rw [hA]; exact hashS_size _ _ _
  rw [← hA] at hhead
  rw [← hA]
  have H1 := Lib.hid (And.intro B1 (H0.out.more B1))
  clear B1 hA
  simp only []
  go_wp2_with fail
  refine (new_any 16 ⟨#[107]⟩ w1 H1.out.2 (by decide) (by decide) (by decide)).mono ?_
  rintro e w2 ⟨b, v, hb, rfl, V2, B2⟩
  have H2 := Lib.hid (And.intro V2 (And.intro B2 hb))
  clear V2 B2 hb
  simp only []
  go_wp2_with fail
  refine (sum_bad 33 .empty .empty w2 (by unfold may; omega)).mono ?_
  rintro e w3 ⟨rfl, rfl⟩
  simp only []
  go_wp2_with fail
  refine (add_any w1.heap.size ⟨#[97, 98]⟩ (H1.out.2.more H2.out.2.1) H2.out.1 H2.out.2.1.size H1.out.2.lt H2.out.2.2 (by decide) (by decide)).mono ?_
  rintro e w4 ⟨rfl, ⟨v4, V4⟩, B4⟩
  have H4 := Lib.hid (And.intro V4 (H2.out.2.1.trans B4))
  clear V4 B4
  simp only []
  go_wp2_with fail
  refine (hsum_any w1.heap.size (H1.out.2.more H4.out.2) (size := 16) H4.out.1 (by decide) (by decide)).mono ?_
  rintro e w5 ⟨rfl, B5⟩
  obtain ⟨G, hG⟩ : ∃ G, G = digs (compress ((newS 16 ⟨#[107]⟩).add ⟨#[97, 98]⟩).h (pad ((newS 16 ⟨#[107]⟩).add ⟨#[97, 98]⟩).r) (w64 (((newS 16 ⟨#[107]⟩).add ⟨#[97, 98]⟩).n + ((newS 16 ⟨#[107]⟩).add ⟨#[97, 98]⟩).r.size)) true) 16 := ⟨_, rfl⟩
  have hGs : G.size = 16 := by rw [hG]; exact digs_size _ _
  rw [← hG]
  have H5 := Lib.hid (H1.out.1.trans ((H4.out.2.trans (B5.mono H4.out.2.size)).mono H1.out.1.size))
  clear B5 hG
  simp only []
  go_wp2_with fail
  go_ret
  exact ⟨rfl, H5.out⟩

set_option maxHeartbeats 8000000 in
theorem nil_walk (s : ByteArray) (w : World) (hT : Tab w) : Calls Tryd.prog 6 #[.string s] w fun e w' => e = .returned (.bool true) ∧ Below w.heap.size w w' := by
  have H0 := Lib.hid hT
  clear hT
  go_enter Tryd.func6, Tryd.ntmps6
  go_wp2_with fail
  refine (add_nil s w).mono ?_
  rintro e w1 ⟨rfl, rfl⟩
  simp only []
  go_wp2_with fail
  refine (sum_nil _).mono ?_
  rintro e w1 ⟨rfl, rfl⟩
  simp only []
  go_wp2_with fail
  refine (alive_any _ H0.out).mono ?_
  rintro e w1 ⟨rfl, B1⟩
  have H1 := Lib.hid B1
  clear B1
  simp only []
  go_wp2_with fail
  go_ret
  exact ⟨rfl, H1.out⟩

end Go.Proofs.YtfminodongcelaaDoor
