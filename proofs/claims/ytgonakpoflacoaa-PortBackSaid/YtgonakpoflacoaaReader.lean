/-
  The reader's methods, at a reader that is there and at nil; numbers and texts as bytes.
-/
import Derived.Test.YtgonakpoflacoaaBytes
set_option linter.unusedVariables false
namespace Go.Proofs.Ytgonakpoflacoaa
open Go.RowKit

theorem leftS_le (s : ByteArray) (f n : Int) : (leftS s f n).size ≤ s.size := by
  unfold leftS
  split
  · simp [ByteArray.size_extract]
  · exact Nat.le_refl _

theorem Only.below {b : Nat} {w w' : World} (h : Only b w w') {B : Nat} (hB : B ≤ b) (hw : B ≤ w.heap.size) : Below B w w' :=
  ⟨h.os, h.tape, h.output, h.size, fun k hk => h.block k (by omega) (by omega)⟩

/-- A new reader. -/
theorem new_any (s : ByteArray) (w : World) :
    Calls Try.prog 37 #[.string s] w fun e w' => e = .returned (.pointer (some ⟨w.heap.size, 0, none⟩)) ∧ Rd w' w.heap.size 72 s 0 ∧ Below w.heap.size w w' := by
  go_enter Try.func37, Try.ntmps37
  go_wp2
  go_ret
  refine ⟨rfl, ?_, (Below.refl _ _).alloc (Nat.le_refl _) _⟩
  exact heap_alloc_new w _

theorem u64_any (b : Nat) (s : ByteArray) (f : Int) (w : World) (h : Rd w b 72 s f) (hm : s.size ≤ maxLen) :
    Calls Try.prog 41 #[.pointer (some ⟨b, 0, none⟩)] w fun e w' => e = .returned (.int .u64 (numOf (outS s f 8).data.toList)) ∧ Left b 72 w w' (leftS s f 8) (leftF s f 8) := by
  go_enter Try.func41, Try.ntmps41
  go_wp2_with (go_at_call 50; refine (number64 b s f _ h hm).mono ?_; rintro e w1 ⟨rfl, h1⟩)
  go_ret
  exact ⟨rfl, h1⟩

theorem u16_any (b : Nat) (s : ByteArray) (f : Int) (w : World) (h : Rd w b 72 s f) (hm : s.size ≤ maxLen) :
    Calls Try.prog 38 #[.pointer (some ⟨b, 0, none⟩)] w fun e w' => e = .returned (.int .u16 (numOf (outS s f 2).data.toList)) ∧ Left b 72 w w' (leftS s f 2) (leftF s f 2) := by
  go_enter Try.func38, Try.ntmps38
  go_wp2_with (go_at_call 49; refine (number16 b s f _ h hm).mono ?_; rintro e w1 ⟨rfl, h1⟩)
  go_ret
  exact ⟨rfl, h1⟩

theorem u8_any (b : Nat) (s : ByteArray) (f : Int) (w : World) (h : Rd w b 72 s f) (hm : s.size ≤ maxLen) :
    Calls Try.prog 42 #[.pointer (some ⟨b, 0, none⟩)] w fun e w' => e = .returned (.int .u8 (numOf (outS s f 1).data.toList)) ∧ Left b 72 w w' (leftS s f 1) (leftF s f 1) := by
  go_enter Try.func42, Try.ntmps42
  go_wp2_with (go_at_call 51; refine (number8 b s f _ h hm).mono ?_; rintro e w1 ⟨rfl, h1⟩)
  go_ret
  exact ⟨rfl, h1⟩

theorem put16 (x : Nat) (w : World) (hx : x < 65536) :
    Calls Try.prog 22 #[.int .u16 x] w fun e w' => e = .returned (.string (beS x 2)) ∧ Below w.heap.size w w' := by
  go_enter Try.func22, Try.ntmps22
  go_wp2_with (go_at_call 34; refine (bytes16 x 2 _ hx (by decide) (by decide)).mono ?_; rintro e w1 ⟨rfl, h1⟩)
  go_ret
  exact ⟨rfl, h1⟩

theorem put32 (x : Nat) (w : World) (hx : x < 4294967296) :
    Calls Try.prog 53 #[.int .u32 x] w fun e w' => e = .returned (.string (beS x 4)) ∧ Below w.heap.size w w' := by
  go_enter Try.func53, Try.ntmps53
  go_wp2_with (go_at_call 54; refine (bytes32 x 4 _ hx (by decide) (by decide)).mono ?_; rintro e w1 ⟨rfl, h1⟩)
  go_ret
  exact ⟨rfl, h1⟩

theorem put64 (x : Nat) (w : World) (hx : x < 18446744073709551616) :
    Calls Try.prog 25 #[.int .u64 x] w fun e w' => e = .returned (.string (beS x 8)) ∧ Below w.heap.size w w' := by
  go_enter Try.func25, Try.ntmps25
  go_wp2_with (go_at_call 35; refine (bytes64 x 8 _ hx (by decide) (by decide)).mono ?_; rintro e w1 ⟨rfl, h1⟩)
  go_ret
  exact ⟨rfl, h1⟩

theorem take_meth (b : Nat) (s : ByteArray) (f n : Int) (w : World) (h : Rd w b 72 s f) (hm : s.size ≤ maxLen) :
    Calls Try.prog 43 #[.pointer (some ⟨b, 0, none⟩), .int .i64 n] w fun e w' => e = .returned (.string (outS s f n)) ∧ Left b 72 w w' (leftS s f n) (leftF s f n) := by
  go_enter Try.func43, Try.ntmps43
  go_wp2_with (go_at_call 52; refine (take_any b s f n _ h hm).mono ?_; rintro e w1 ⟨rfl, h1⟩)
  go_ret
  exact ⟨rfl, h1⟩
theorem left_any (b : Nat) (s : ByteArray) (f : Int) (w : World) (h : Rd w b 72 s f) :
    Calls Try.prog 39 #[.pointer (some ⟨b, 0, none⟩)] w fun e w' => e = .returned (.int .i64 s.size) ∧ w = w' := by
  have c0 := h.cell0
  go_enter Try.func39, Try.ntmps39
  go_wp2
  go_ret
  exact ⟨rfl, rfl⟩
theorem fault_any (b : Nat) (s : ByteArray) (f : Int) (w : World) (h : Rd w b 72 s f) :
    Calls Try.prog 40 #[.pointer (some ⟨b, 0, none⟩)] w fun e w' => e = .returned (.int .i64 f) ∧ w = w' := by
  have c1 := h.cell1
  go_enter Try.func40, Try.ntmps40
  go_wp2
  go_ret
  exact ⟨rfl, rfl⟩
end Go.Proofs.Ytgonakpoflacoaa
