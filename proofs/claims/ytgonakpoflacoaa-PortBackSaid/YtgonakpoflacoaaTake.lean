/-
  The reader's take: what it answers, and what it leaves in the reader's two cells.
-/
import Derived.Test.YtgonakpoflacoaaLaw
import Derived.WalkSpells
import Derived.Outline
import Derived.Lib.Hide
set_option linter.unusedVariables false
namespace Go.Proofs.Ytgonakpoflacoaa
open Go.RowKit

/-- A block of two cells: the reader's text and its fault. -/
def Rd (w : World) (b : Nat) (T : TypeId) (s : ByteArray) (f : Int) : Prop := w.heap[b]? = some (.cells #[.string s, .int .i64 f] T (0, 0))

/-- Block b alone may have turned; new blocks may have come. -/
structure Only (b : Nat) (w w' : World) : Prop where
  os : w'.os = w.os
  tape : w'.tape = w.tape
  output : w'.output = w.output
  size : w.heap.size ≤ w'.heap.size
  block : ∀ k, k < w.heap.size → k ≠ b → w'.heap[k]? = w.heap[k]?

theorem Only.refl (b : Nat) (w : World) : Only b w w := ⟨rfl, rfl, rfl, Nat.le_refl _, fun _ _ _ => rfl⟩
theorem Only.trans {b : Nat} {u v w : World} (h : Only b u v) (k : Only b v w) : Only b u w :=
  ⟨k.os.trans h.os, k.tape.trans h.tape, k.output.trans h.output, Nat.le_trans h.size k.size, fun i hi hne => (k.block i (Nat.lt_of_lt_of_le hi h.size) hne).trans (h.block i hi hne)⟩
theorem Only.setCell {b : Nat} (w : World) (o : Nat) (v : Value) : Only b w (w.setCell ⟨b, o, none⟩ v) :=
  ⟨rfl, rfl, rfl, by simp, fun _ _ hne => Below.heap_setCell _ _ _ _ hne⟩

theorem Rd.cell0 {w : World} {b : Nat} {T : TypeId} {s : ByteArray} {f : Int} (h : Rd w b T s f) : w.cell? ⟨b, 0, none⟩ = some (.string s) := by
  unfold Rd at h; simp [World.cell?, h]
theorem Rd.cell1 {w : World} {b : Nat} {T : TypeId} {s : ByteArray} {f : Int} (h : Rd w b T s f) : w.cell? ⟨b, 1, none⟩ = some (.int .i64 f) := by
  unfold Rd at h; simp [World.cell?, h]
theorem Rd.frozen {w : World} {b : Nat} {T : TypeId} {s : ByteArray} {f : Int} (h : Rd w b T s f) (o : Nat) : w.frozen? ⟨b, o, none⟩ = false := by
  unfold Rd at h; simp [World.frozen?, h]
theorem Rd.lt {w : World} {b : Nat} {T : TypeId} {s : ByteArray} {f : Int} (h : Rd w b T s f) : b < w.heap.size :=
  (Array.getElem?_eq_some_iff.1 h).1
theorem Rd.set0 {w : World} {b : Nat} {T : TypeId} {s : ByteArray} {f : Int} (h : Rd w b T s f) (s' : ByteArray) : Rd (w.setCell ⟨b, 0, none⟩ (.string s')) b T s' f := by
  unfold Rd at *; simp [World.setCell, Array.getElem?_modify, h]
theorem Rd.set1 {w : World} {b : Nat} {T : TypeId} {s : ByteArray} {f : Int} (h : Rd w b T s f) (f' : Int) : Rd (w.setCell ⟨b, 1, none⟩ (.int .i64 f')) b T s f' := by
  unfold Rd at *; simp [World.setCell, Array.getElem?_modify, h]


/-- What take answers, and what it leaves. -/
def okB (s : ByteArray) (f n : Int) : Bool := decide (f = 0 ∧ 0 ≤ n ∧ n ≤ s.size)
def outS (s : ByteArray) (f n : Int) : ByteArray := if okB s f n then s.extract 0 n.toNat else .empty
def leftS (s : ByteArray) (f n : Int) : ByteArray := if okB s f n then s.extract n.toNat s.size else s
def leftF (s : ByteArray) (f n : Int) : Int := if f ≠ 0 then f else if n < 0 then 2 else if s.size < n then 7 else 0

/-- What a call on the reader leaves. -/
structure Left (b : Nat) (T : TypeId) (w w' : World) (s : ByteArray) (f : Int) : Prop where
  rd : Rd w' b T s f
  only : Only b w w'

theorem take_fault (b : Nat) (s : ByteArray) (f n : Int) (w : World) (h : Rd w b 72 s f) (hf : (f == 0) = false) :
    Calls Try.prog 52 #[.pointer (some ⟨b, 0, none⟩), .int .i64 n] w fun e w' => e = .returned (.tuple #[.string .empty, .bool false]) ∧ w = w' := by
  have c0 := h.cell0
  have c1 := h.cell1
  go_enter Try.func52, Try.ntmps52
  go_wp2
  go_ret2
  exact ⟨rfl, rfl⟩

theorem take_neg (b : Nat) (s : ByteArray) (n : Int) (w : World) (h : Rd w b 72 s 0) (hn : n < 0) :
    Calls Try.prog 52 #[.pointer (some ⟨b, 0, none⟩), .int .i64 n] w fun e w' => e = .returned (.tuple #[.string .empty, .bool false]) ∧ w.setCell ⟨b, 1, none⟩ (.int .i64 2) = w' := by
  have c0 := h.cell0
  have c1 := h.cell1
  have f1 := h.frozen 1
  go_enter Try.func52, Try.ntmps52
  go_wp2
  go_ret2
  exact ⟨rfl, rfl⟩

theorem take_short (b : Nat) (s : ByteArray) (n : Int) (w : World) (h : Rd w b 72 s 0) (hn : 0 ≤ n) (hs : s.size < n) (hm : s.size ≤ maxLen) :
    Calls Try.prog 52 #[.pointer (some ⟨b, 0, none⟩), .int .i64 n] w fun e w' => e = .returned (.tuple #[.string .empty, .bool false]) ∧ w.setCell ⟨b, 1, none⟩ (.int .i64 7) = w' := by
  unfold maxLen at hm
  have c0 := h.cell0
  have c1 := h.cell1
  have f1 := h.frozen 1
  go_enter Try.func52, Try.ntmps52
  go_wp2
  go_ret2
  exact ⟨rfl, rfl⟩

theorem take_ok (b : Nat) (s : ByteArray) (n : Nat) (w : World) (h : Rd w b 72 s 0) (hs : n ≤ s.size) (hm : s.size ≤ maxLen) :
    Calls Try.prog 52 #[.pointer (some ⟨b, 0, none⟩), .int .i64 n] w fun e w' => e = .returned (.tuple #[.string (s.extract 0 n), .bool true]) ∧ w.setCell ⟨b, 0, none⟩ (.string (s.extract n s.size)) = w' := by
  unfold maxLen at hm
  have c0 := h.cell0
  have c1 := h.cell1
  have f0 := h.frozen 0
  go_enter Try.func52, Try.ntmps52
  go_wp2
  go_ret2
  exact ⟨rfl, rfl⟩

theorem take_any (b : Nat) (s : ByteArray) (f n : Int) (w : World) (h : Rd w b 72 s f) (hm : s.size ≤ maxLen) :
    Calls Try.prog 52 #[.pointer (some ⟨b, 0, none⟩), .int .i64 n] w fun e w' => e = .returned (.tuple #[.string (outS s f n), .bool (okB s f n)]) ∧ Left b 72 w w' (leftS s f n) (leftF s f n) := by
  by_cases hf : f = 0
  · subst hf
    by_cases hn : n < 0
    · have e : okB s 0 n = false := decide_eq_false (by omega)
      simp only [outS, leftS, leftF, e]
      refine (take_neg b s n w h hn).mono ?_
      rintro e w' ⟨rfl, rfl⟩
      exact ⟨by simp, by simpa [hn] using h.set1 2, Only.setCell _ _ _⟩
    · by_cases hs : (s.size : Int) < n
      · have e : okB s 0 n = false := decide_eq_false (by omega)
        simp only [outS, leftS, leftF, e]
        refine (take_short b s n w h (by omega) hs hm).mono ?_
        rintro e w' ⟨rfl, rfl⟩
        exact ⟨by simp, by simpa [hn, hs] using h.set1 7, Only.setCell _ _ _⟩
      · obtain ⟨n, rfl⟩ := Int.eq_ofNat_of_zero_le (Int.not_lt.1 hn)
        have e : okB s 0 n = true := decide_eq_true (by omega)
        simp only [outS, leftS, leftF, e]
        refine (take_ok b s n w h (by omega) hm).mono ?_
        rintro e w' ⟨rfl, rfl⟩
        exact ⟨by simp, by simpa [hn, hs] using h.set0 _, Only.setCell _ _ _⟩
  · have e : okB s f n = false := decide_eq_false (by omega)
    simp only [outS, leftS, leftF, e]
    refine (take_fault b s f n w h (beq_eq_false_iff_ne.2 hf)).mono ?_
    rintro e w' ⟨rfl, rfl⟩
    exact ⟨by simp, by simpa [hf] using h, Only.refl _ _⟩

end Go.Proofs.Ytgonakpoflacoaa
