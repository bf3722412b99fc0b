/-
  The reader's methods, at a reader that is there and at nil; numbers and texts as bytes.
-/
import Derived.Test.YtojfjjlmlefoiaaBytes
set_option linter.unusedVariables false
namespace Go.Proofs.Ytojfjjlmlefoiaa
open Go.RowKit

theorem leftS_le (s : ByteArray) (f n : Int) : (leftS s f n).size ≤ s.size := by
  unfold leftS
  split
  · simp [ByteArray.size_extract]
  · exact Nat.le_refl _

theorem Only.below {b : Nat} {w w' : World} (h : Only b w w') {B : Nat} (hB : B ≤ b) (hw : B ≤ w.heap.size) : Below B w w' :=
  ⟨h.os, h.tape, h.output, h.size, fun k hk => h.block k (by omega) (by omega)⟩

/-- A new reader. -/
theorem new_any (s : ByteArray) (w : World) :
    Calls Try.prog 14 #[.string s] w fun e w' => e = .returned (.pointer (some ⟨w.heap.size, 0, none⟩)) ∧ Rd w' w.heap.size 61 s 0 ∧ Below w.heap.size w w' := by
  go_enter Try.func14, Try.ntmps14
  go_wp2
  go_ret
  refine ⟨rfl, ?_, (Below.refl _ _).alloc (Nat.le_refl _) _⟩
  exact heap_alloc_new w _

theorem u64_any (b : Nat) (s : ByteArray) (f : Int) (w : World) (h : Rd w b 61 s f) (hm : s.size ≤ maxLen) :
    Calls Try.prog 15 #[.pointer (some ⟨b, 0, none⟩)] w fun e w' => e = .returned (.int .u64 (numOf (outS s f 8).data.toList)) ∧ Left b 61 w w' (leftS s f 8) (leftF s f 8) := by
  go_enter Try.func15, Try.ntmps15
  go_wp2_with (go_at_call 31; refine (number64 b s f _ h hm).mono ?_; rintro e w1 ⟨rfl, h1⟩)
  go_ret
  exact ⟨rfl, h1⟩

theorem number64_nil (w : World) :
    Calls Try.prog 31 #[.pointer none, .int .i64 8] w fun e w' => e = .returned (.int .u64 0) ∧ Below w.heap.size w w' := by
  go_enter Try.func31, Try.ntmps31
  go_wp2_with (go_at_call 34; refine (take_nil 8 _).mono ?_; rintro e w1 ⟨rfl, rfl⟩)
  have hconv := run_bytes_of_string (P := Try.prog) w 9 57 5 ByteArray.empty Try.underlying9 Try.underlying57 Try.underlying5
  have hb := ((Below.refl w.heap.size w).drew).alloc (Nat.le_refl _) (.cells (bytesRow ByteArray.empty (grownCap w ByteArray.empty.size 0 5)) 5 ((bytesRow ByteArray.empty (grownCap w ByteArray.empty.size 0 5)).size, (bytesRow ByteArray.empty (grownCap w ByteArray.empty.size 0 5)).size + 1))
  obtain ⟨cap, hcap⟩ : ∃ cap, cap = grownCap w ByteArray.empty.size 0 5 := ⟨_, rfl⟩
  rw [← hcap] at hconv hb
  clear hcap
  obtain ⟨w2, hw2⟩ : ∃ w2, w2 = w.drew.alloc (.cells (bytesRow ByteArray.empty cap) 5 ((bytesRow ByteArray.empty cap).size, (bytesRow ByteArray.empty cap).size + 1)) := ⟨_, rfl⟩
  rw [← hw2] at hconv hb
  clear hw2
  go_simp
  go_wp2
  go_rounds 1
  go_ret
  exact ⟨rfl, hb⟩

theorem u64_nil (w : World) :
    Calls Try.prog 15 #[.pointer none] w fun e w' => e = .returned (.int .u64 0) ∧ Below w.heap.size w w' := by
  go_enter Try.func15, Try.ntmps15
  go_wp2_with (go_at_call 31; refine (number64_nil _).mono ?_; rintro e w1 ⟨rfl, h1⟩)
  go_ret
  exact ⟨rfl, h1⟩

theorem u32_any (b : Nat) (s : ByteArray) (f : Int) (w : World) (h : Rd w b 61 s f) (hm : s.size ≤ maxLen) :
    Calls Try.prog 16 #[.pointer (some ⟨b, 0, none⟩)] w fun e w' => e = .returned (.int .u32 (numOf (outS s f 4).data.toList)) ∧ Left b 61 w w' (leftS s f 4) (leftF s f 4) := by
  go_enter Try.func16, Try.ntmps16
  go_wp2_with (go_at_call 32; refine (number32 b s f _ h hm).mono ?_; rintro e w1 ⟨rfl, h1⟩)
  go_ret
  exact ⟨rfl, h1⟩

theorem number32_nil (w : World) :
    Calls Try.prog 32 #[.pointer none, .int .i64 4] w fun e w' => e = .returned (.int .u32 0) ∧ Below w.heap.size w w' := by
  go_enter Try.func32, Try.ntmps32
  go_wp2_with (go_at_call 34; refine (take_nil 4 _).mono ?_; rintro e w1 ⟨rfl, rfl⟩)
  have hconv := run_bytes_of_string (P := Try.prog) w 9 57 5 ByteArray.empty Try.underlying9 Try.underlying57 Try.underlying5
  have hb := ((Below.refl w.heap.size w).drew).alloc (Nat.le_refl _) (.cells (bytesRow ByteArray.empty (grownCap w ByteArray.empty.size 0 5)) 5 ((bytesRow ByteArray.empty (grownCap w ByteArray.empty.size 0 5)).size, (bytesRow ByteArray.empty (grownCap w ByteArray.empty.size 0 5)).size + 1))
  obtain ⟨cap, hcap⟩ : ∃ cap, cap = grownCap w ByteArray.empty.size 0 5 := ⟨_, rfl⟩
  rw [← hcap] at hconv hb
  clear hcap
  obtain ⟨w2, hw2⟩ : ∃ w2, w2 = w.drew.alloc (.cells (bytesRow ByteArray.empty cap) 5 ((bytesRow ByteArray.empty cap).size, (bytesRow ByteArray.empty cap).size + 1)) := ⟨_, rfl⟩
  rw [← hw2] at hconv hb
  clear hw2
  go_simp
  go_wp2
  go_rounds 1
  go_ret
  exact ⟨rfl, hb⟩

theorem u32_nil (w : World) :
    Calls Try.prog 16 #[.pointer none] w fun e w' => e = .returned (.int .u32 0) ∧ Below w.heap.size w w' := by
  go_enter Try.func16, Try.ntmps16
  go_wp2_with (go_at_call 32; refine (number32_nil _).mono ?_; rintro e w1 ⟨rfl, h1⟩)
  go_ret
  exact ⟨rfl, h1⟩

theorem u16_any (b : Nat) (s : ByteArray) (f : Int) (w : World) (h : Rd w b 61 s f) (hm : s.size ≤ maxLen) :
    Calls Try.prog 17 #[.pointer (some ⟨b, 0, none⟩)] w fun e w' => e = .returned (.int .u16 (numOf (outS s f 2).data.toList)) ∧ Left b 61 w w' (leftS s f 2) (leftF s f 2) := by
  go_enter Try.func17, Try.ntmps17
  go_wp2_with (go_at_call 33; refine (number16 b s f _ h hm).mono ?_; rintro e w1 ⟨rfl, h1⟩)
  go_ret
  exact ⟨rfl, h1⟩

theorem number16_nil (w : World) :
    Calls Try.prog 33 #[.pointer none, .int .i64 2] w fun e w' => e = .returned (.int .u16 0) ∧ Below w.heap.size w w' := by
  go_enter Try.func33, Try.ntmps33
  go_wp2_with (go_at_call 34; refine (take_nil 2 _).mono ?_; rintro e w1 ⟨rfl, rfl⟩)
  have hconv := run_bytes_of_string (P := Try.prog) w 9 57 5 ByteArray.empty Try.underlying9 Try.underlying57 Try.underlying5
  have hb := ((Below.refl w.heap.size w).drew).alloc (Nat.le_refl _) (.cells (bytesRow ByteArray.empty (grownCap w ByteArray.empty.size 0 5)) 5 ((bytesRow ByteArray.empty (grownCap w ByteArray.empty.size 0 5)).size, (bytesRow ByteArray.empty (grownCap w ByteArray.empty.size 0 5)).size + 1))
  obtain ⟨cap, hcap⟩ : ∃ cap, cap = grownCap w ByteArray.empty.size 0 5 := ⟨_, rfl⟩
  rw [← hcap] at hconv hb
  clear hcap
  obtain ⟨w2, hw2⟩ : ∃ w2, w2 = w.drew.alloc (.cells (bytesRow ByteArray.empty cap) 5 ((bytesRow ByteArray.empty cap).size, (bytesRow ByteArray.empty cap).size + 1)) := ⟨_, rfl⟩
  rw [← hw2] at hconv hb
  clear hw2
  go_simp
  go_wp2
  go_rounds 1
  go_ret
  exact ⟨rfl, hb⟩

theorem u16_nil (w : World) :
    Calls Try.prog 17 #[.pointer none] w fun e w' => e = .returned (.int .u16 0) ∧ Below w.heap.size w w' := by
  go_enter Try.func17, Try.ntmps17
  go_wp2_with (go_at_call 33; refine (number16_nil _).mono ?_; rintro e w1 ⟨rfl, h1⟩)
  go_ret
  exact ⟨rfl, h1⟩

theorem u8_any (b : Nat) (s : ByteArray) (f : Int) (w : World) (h : Rd w b 61 s f) (hm : s.size ≤ maxLen) :
    Calls Try.prog 23 #[.pointer (some ⟨b, 0, none⟩)] w fun e w' => e = .returned (.int .u8 (numOf (outS s f 1).data.toList)) ∧ Left b 61 w w' (leftS s f 1) (leftF s f 1) := by
  go_enter Try.func23, Try.ntmps23
  go_wp2_with (go_at_call 35; refine (number8 b s f _ h hm).mono ?_; rintro e w1 ⟨rfl, h1⟩)
  go_ret
  exact ⟨rfl, h1⟩

theorem number8_nil (w : World) :
    Calls Try.prog 35 #[.pointer none, .int .i64 1] w fun e w' => e = .returned (.int .u8 0) ∧ Below w.heap.size w w' := by
  go_enter Try.func35, Try.ntmps35
  go_wp2_with (go_at_call 34; refine (take_nil 1 _).mono ?_; rintro e w1 ⟨rfl, rfl⟩)
  have hconv := run_bytes_of_string (P := Try.prog) w 9 57 5 ByteArray.empty Try.underlying9 Try.underlying57 Try.underlying5
  have hb := ((Below.refl w.heap.size w).drew).alloc (Nat.le_refl _) (.cells (bytesRow ByteArray.empty (grownCap w ByteArray.empty.size 0 5)) 5 ((bytesRow ByteArray.empty (grownCap w ByteArray.empty.size 0 5)).size, (bytesRow ByteArray.empty (grownCap w ByteArray.empty.size 0 5)).size + 1))
  obtain ⟨cap, hcap⟩ : ∃ cap, cap = grownCap w ByteArray.empty.size 0 5 := ⟨_, rfl⟩
  rw [← hcap] at hconv hb
  clear hcap
  obtain ⟨w2, hw2⟩ : ∃ w2, w2 = w.drew.alloc (.cells (bytesRow ByteArray.empty cap) 5 ((bytesRow ByteArray.empty cap).size, (bytesRow ByteArray.empty cap).size + 1)) := ⟨_, rfl⟩
  rw [← hw2] at hconv hb
  clear hw2
  go_simp
  go_wp2
  go_rounds 1
  go_ret
  exact ⟨rfl, hb⟩

theorem u8_nil (w : World) :
    Calls Try.prog 23 #[.pointer none] w fun e w' => e = .returned (.int .u8 0) ∧ Below w.heap.size w w' := by
  go_enter Try.func23, Try.ntmps23
  go_wp2_with (go_at_call 35; refine (number8_nil _).mono ?_; rintro e w1 ⟨rfl, h1⟩)
  go_ret
  exact ⟨rfl, h1⟩

theorem put16 (x : Nat) (w : World) (hx : x < 65536) :
    Calls Try.prog 10 #[.int .u16 x] w fun e w' => e = .returned (.string (beS x 2)) ∧ Below w.heap.size w w' := by
  go_enter Try.func10, Try.ntmps10
  go_wp2_with (go_at_call 28; refine (bytes16 x 2 _ hx (by decide) (by decide)).mono ?_; rintro e w1 ⟨rfl, h1⟩)
  go_ret
  exact ⟨rfl, h1⟩

theorem put32 (x : Nat) (w : World) (hx : x < 4294967296) :
    Calls Try.prog 12 #[.int .u32 x] w fun e w' => e = .returned (.string (beS x 4)) ∧ Below w.heap.size w w' := by
  go_enter Try.func12, Try.ntmps12
  go_wp2_with (go_at_call 29; refine (bytes32 x 4 _ hx (by decide) (by decide)).mono ?_; rintro e w1 ⟨rfl, h1⟩)
  go_ret
  exact ⟨rfl, h1⟩

theorem put64 (x : Nat) (w : World) (hx : x < 18446744073709551616) :
    Calls Try.prog 13 #[.int .u64 x] w fun e w' => e = .returned (.string (beS x 8)) ∧ Below w.heap.size w w' := by
  go_enter Try.func13, Try.ntmps13
  go_wp2_with (go_at_call 30; refine (bytes64 x 8 _ hx (by decide) (by decide)).mono ?_; rintro e w1 ⟨rfl, h1⟩)
  go_ret
  exact ⟨rfl, h1⟩

theorem take_meth (b : Nat) (s : ByteArray) (f n : Int) (w : World) (h : Rd w b 61 s f) (hm : s.size ≤ maxLen) :
    Calls Try.prog 22 #[.pointer (some ⟨b, 0, none⟩), .int .i64 n] w fun e w' => e = .returned (.string (outS s f n)) ∧ Left b 61 w w' (leftS s f n) (leftF s f n) := by
  go_enter Try.func22, Try.ntmps22
  go_wp2_with (go_at_call 34; refine (take_any b s f n _ h hm).mono ?_; rintro e w1 ⟨rfl, h1⟩)
  go_ret
  exact ⟨rfl, h1⟩
theorem take_meth_nil (n : Int) (w : World) :
    Calls Try.prog 22 #[.pointer none, .int .i64 n] w fun e w' => e = .returned (.string .empty) ∧ w = w' := by
  go_enter Try.func22, Try.ntmps22
  go_wp2_with (go_at_call 34; refine (take_nil n _).mono ?_; rintro e w1 ⟨rfl, rfl⟩)
  go_ret
  exact ⟨rfl, rfl⟩

theorem left_any (b : Nat) (s : ByteArray) (f : Int) (w : World) (h : Rd w b 61 s f) :
    Calls Try.prog 19 #[.pointer (some ⟨b, 0, none⟩)] w fun e w' => e = .returned (.int .i64 s.size) ∧ w = w' := by
  have c0 := h.cell0
  go_enter Try.func19, Try.ntmps19
  go_wp2
  go_ret
  exact ⟨rfl, rfl⟩
theorem left_nil (w : World) :
    Calls Try.prog 19 #[.pointer none] w fun e w' => e = .returned (.int .i64 0) ∧ w = w' := by
  go_enter Try.func19, Try.ntmps19
  go_wp2
  go_ret
  exact ⟨rfl, rfl⟩

theorem fault_any (b : Nat) (s : ByteArray) (f : Int) (w : World) (h : Rd w b 61 s f) :
    Calls Try.prog 20 #[.pointer (some ⟨b, 0, none⟩)] w fun e w' => e = .returned (.int .i64 f) ∧ w = w' := by
  have c1 := h.cell1
  go_enter Try.func20, Try.ntmps20
  go_wp2
  go_ret
  exact ⟨rfl, rfl⟩
theorem fault_nil (w : World) :
    Calls Try.prog 20 #[.pointer none] w fun e w' => e = .returned (.int .i64 1) ∧ w = w' := by
  go_enter Try.func20, Try.ntmps20
  go_wp2
  go_ret
  exact ⟨rfl, rfl⟩

/-- What End answers. -/
def endF (s : ByteArray) (f : Int) : Int := if f = 0 ∧ s.size ≠ 0 then 8 else f

theorem toList_nil (s : ByteArray) : s.data.toList = [] ↔ s.size = 0 := by
  rw [← List.length_eq_zero_iff, Array.length_toList]; rfl

theorem end_any (b : Nat) (s : ByteArray) (f : Int) (w : World) (h : Rd w b 61 s f) :
    Calls Try.prog 21 #[.pointer (some ⟨b, 0, none⟩)] w fun e w' => e = .returned (.int .i64 (endF s f)) ∧ w = w' := by
  have c0 := h.cell0
  have c1 := h.cell1
  by_cases hf : f = 0
  · subst hf
    by_cases hs : s.size = 0
    · have e1 : s.toList = [] := by rw [ByteArray.toList_eq]; exact (toList_nil s).2 hs
      have e2 : (!s.toList.isEmpty) = false := by rw [e1]; rfl
      go_enter Try.func21, Try.ntmps21
      go_wp2_with (go_at_call 20; refine (fault_any b s 0 _ h).mono ?_; rintro e w1 ⟨rfl, rfl⟩)
      go_ret
      exact ⟨by simp [endF, hs], rfl⟩
    · have e2 : (!s.toList.isEmpty) = true := by
        rw [ByteArray.toList_eq]
        cases hl : s.data.toList with
        | nil => exact absurd ((toList_nil s).1 hl) hs
        | cons a l => rfl
      go_enter Try.func21, Try.ntmps21
      go_wp2
      go_ret
      exact ⟨by simp [endF, hs], rfl⟩
  · go_enter Try.func21, Try.ntmps21
    go_wp2_with (go_at_call 20; refine (fault_any b s f _ h).mono ?_; rintro e w1 ⟨rfl, rfl⟩)
    go_ret
    exact ⟨by simp [endF, hf], rfl⟩
theorem end_nil (w : World) :
    Calls Try.prog 21 #[.pointer none] w fun e w' => e = .returned (.int .i64 1) ∧ w = w' := by
  go_enter Try.func21, Try.ntmps21
  go_wp2_with (go_at_call 20; refine (fault_nil _).mono ?_; rintro e w1 ⟨rfl, rfl⟩)
  go_ret
  exact ⟨rfl, rfl⟩

/-- A text as bytes. -/
def textS (s : ByteArray) : ByteArray := if s.size ≤ 32768 then beS s.size 2 ++ s else .empty
def textE (s : ByteArray) : Int := if s.size ≤ 32768 then 0 else 4

theorem text_put (s : ByteArray) (w : World) (hm : s.size ≤ maxLen) :
    Calls Try.prog 8 #[.string s] w fun e w' => e = .returned (.tuple #[.string (textS s), .int .i64 (textE s)]) ∧ Below w.heap.size w w' := by
  unfold maxLen at hm
  by_cases h : s.size ≤ 32768
  · have hz : (beS s.size 2).size + s.size ≤ 9223372036854775807 := by rw [beS_size]; omega
    go_enter Try.func8, Try.ntmps8
    go_wp2_with (go_at_call 10; refine (put16 s.size _ (by omega)).mono ?_; rintro e w1 ⟨rfl, h1⟩)
    go_ret2
    exact ⟨by simp [textS, textE, h], h1⟩
  · go_enter Try.func8, Try.ntmps8
    go_wp2
    go_ret2
    exact ⟨by simp [textS, textE, h]; rfl, Below.refl _ _⟩
theorem text_ref (s : ByteArray) (w : World) (hm : s.size ≤ maxLen) :
    Calls Try.prog 9 #[.string s] w fun e w' => e = .returned (.tuple #[.string (textS s), .int .i64 (textE s)]) ∧ Below w.heap.size w w' := by
  unfold maxLen at hm
  by_cases h : s.size ≤ 32768
  · have hz : (beS s.size 2).size + s.size ≤ 9223372036854775807 := by rw [beS_size]; omega
    go_enter Try.func9, Try.ntmps9
    go_wp2_with (go_at_call 11; refine (num_any s.size 2 _ (by omega) (by decide) (by decide)).mono ?_; rintro e w1 ⟨rfl, h1⟩)
    go_ret2
    exact ⟨by simp [textS, textE, h], h1⟩
  · go_enter Try.func9, Try.ntmps9
    go_wp2
    go_ret2
    exact ⟨by simp [textS, textE, h]; rfl, Below.refl _ _⟩

/-! ### The reader's Text, and the document's reader. -/
def txtN (s : ByteArray) (f : Int) : Nat := numOf (outS s f 2).data.toList
def txtF1 (s : ByteArray) (f : Int) : Int := if leftF s f 2 = 0 ∧ 32768 < txtN s f then 4 else leftF s f 2
def txtOut (s : ByteArray) (f : Int) : ByteArray := outS (leftS s f 2) (txtF1 s f) (txtN s f)
def txtOk (s : ByteArray) (f : Int) : Bool := okB (leftS s f 2) (txtF1 s f) (txtN s f)
def txtS (s : ByteArray) (f : Int) : ByteArray := if txtOk s f then leftS (leftS s f 2) (txtF1 s f) (txtN s f) else s
def txtF (s : ByteArray) (f : Int) : Int := leftF (leftS s f 2) (txtF1 s f) (txtN s f)

theorem txtN_lt (s : ByteArray) (f : Int) : txtN s f < 65536 := by
  have h := numOf_lt (outS s f 2).data.toList
  have h2 : (outS s f 2).data.toList.length ≤ 2 := outS_size s f 2
  exact Nat.lt_of_lt_of_le h (Nat.le_trans (Nat.pow_le_pow_right (by decide) h2) (by decide))

theorem Left.trans {b : Nat} {T : TypeId} {u v w : World} {s s' : ByteArray} {f f' : Int} (h : Left b T u v s f) (k : Left b T v w s' f') : Left b T u w s' f' := ⟨k.rd, h.only.trans k.only⟩
theorem Left.set0 {b : Nat} {T : TypeId} {u w : World} {s : ByteArray} {f : Int} (h : Left b T u w s f) (s' : ByteArray) : Left b T u (w.setCell ⟨b, 0, none⟩ (.string s')) s' f := ⟨h.rd.set0 s', h.only.trans (Only.setCell _ _ _)⟩
theorem Left.set1 {b : Nat} {T : TypeId} {u w : World} {s : ByteArray} {f : Int} (h : Left b T u w s f) (f' : Int) : Left b T u (w.setCell ⟨b, 1, none⟩ (.int .i64 f')) s f' := ⟨h.rd.set1 f', h.only.trans (Only.setCell _ _ _)⟩

/-- What stands behind the number in Text: the text is taken; if it is not there, the number stays. -/
theorem txt_end {b : Nat} {T : TypeId} {u w : World} {s : ByteArray} {f : Int} (h : Left b T u w (leftS (leftS s f 2) (txtF1 s f) (txtN s f)) (leftF (leftS s f 2) (txtF1 s f) (txtN s f))) (ok : txtOk s f = true) : Left b T u w (txtS s f) (txtF s f) := by
  unfold txtS txtF; rw [ok]; exact h
theorem txt_back {b : Nat} {T : TypeId} {u w : World} {s : ByteArray} {f : Int} (h : Left b T u w (leftS (leftS s f 2) (txtF1 s f) (txtN s f)) (leftF (leftS s f 2) (txtF1 s f) (txtN s f))) (ok : txtOk s f = false) : Left b T u (w.setCell ⟨b, 0, none⟩ (.string s)) (txtS s f) (txtF s f) := by
  unfold txtS txtF; rw [ok]; exact h.set0 s


def mid (f1 : Int) (N : Nat) : Int := if f1 = 0 ∧ 32768 < N then 4 else f1
theorem okB_fault (s : ByteArray) (f n : Int) (h : f ≠ 0) : okB s f n = false := decide_eq_false (fun k => h k.1)

theorem txt_gen (b : Nat) (s s1 : ByteArray) (f f1 : Int) (N : Nat) (w : World) (h : Rd w b 61 s f) (hN : N < 65536) (hm : s1.size ≤ maxLen)
    (hu : Hid (Calls Try.prog 17 #[.pointer (some ⟨b, 0, none⟩)] w fun e w' => e = .returned (.int .u16 N) ∧ Left b 61 w w' s1 f1)) :
    Calls Try.prog 18 #[.pointer (some ⟨b, 0, none⟩)] w fun e w' => e = .returned (.string (outS s1 (mid f1 N) N)) ∧ Left b 61 w w' (if okB s1 (mid f1 N) N then leftS s1 (mid f1 N) N else s) (leftF s1 (mid f1 N) N) := by
  have c0 := h.cell0
  by_cases h0 : f1 = 0
  · subst h0
    by_cases hb : 32768 < N
    · have em : mid 0 N = 4 := by simp [mid, hb]
      have ek : okB s1 4 N = false := okB_fault _ _ _ (by decide)
      have ef : leftF s1 4 N = 4 := rfl
      have eo : outS s1 4 N = .empty := by simp [outS, ek]
      rw [em, ek, ef, eo]
      clear em ek ef eo
      go_enter Try.func18, Try.ntmps18
      go_wp2_with (go_at_call 17; refine hu.out.mono ?_; rintro e w1 ⟨rfl, h1⟩; have d0 := h1.rd.cell0; have d1 := h1.rd.cell1; have e0 := h1.rd.frozen 0; have e1 := h1.rd.frozen 1)
      refine (take_fault b s1 4 N _ (h1.rd.set1 4) (by decide)).mono ?_
      rintro e w2 ⟨rfl, rfl⟩
      simp only []
      go_wp2
      go_ret
      exact ⟨rfl, by simpa using (h1.set1 4).set0 s⟩
    · have em : mid 0 N = 0 := by simp [mid, hb]
      rw [em]
      clear em
      by_cases hs : N ≤ s1.size
      · have ek : okB s1 0 N = true := decide_eq_true (by omega)
        have ef : leftF s1 0 N = 0 := by simp [leftF]; omega
        have eo : outS s1 0 N = s1.extract 0 N := by simp [outS, ek]
        have el : leftS s1 0 N = s1.extract N s1.size := by simp [leftS, ek]
        rw [ek, ef, eo, el]
        clear ek ef eo el
        go_enter Try.func18, Try.ntmps18
        go_wp2_with (first | (go_at_call 17; refine hu.out.mono ?_; rintro e w1 ⟨rfl, h1⟩; have d0 := h1.rd.cell0; have d1 := h1.rd.cell1; have e0 := h1.rd.frozen 0; have e1 := h1.rd.frozen 1) | (go_at_call 34; refine (take_ok b s1 N _ h1.rd hs hm).mono ?_; rintro e w2 ⟨rfl, rfl⟩))
        go_ret
        exact ⟨rfl, by simpa using h1.set0 _⟩
      · have ek : okB s1 0 N = false := decide_eq_false (by omega)
        have ef : leftF s1 0 N = 7 := by simp [leftF]; omega
        have eo : outS s1 0 N = .empty := by simp [outS, ek]
        rw [ek, ef, eo]
        clear ek ef eo
        go_enter Try.func18, Try.ntmps18
        go_wp2_with (first | (go_at_call 17; refine hu.out.mono ?_; rintro e w1 ⟨rfl, h1⟩; have d0 := h1.rd.cell0; have d1 := h1.rd.cell1; have e0 := h1.rd.frozen 0; have e1 := h1.rd.frozen 1) | (go_at_call 34; refine (take_short b s1 N _ h1.rd (by omega) (by omega) hm).mono ?_; rintro e w2 ⟨rfl, rfl⟩))
        go_ret
        exact ⟨rfl, by simpa using (h1.set1 7).set0 s⟩
  · have em : mid f1 N = f1 := by simp [mid, h0]
    have ek : okB s1 f1 N = false := okB_fault _ _ _ h0
    have ef : leftF s1 f1 N = f1 := by simp [leftF, h0]
    have eo : outS s1 f1 N = .empty := by simp [outS, ek]
    rw [em, ek, ef, eo]
    clear em ek ef eo
    go_enter Try.func18, Try.ntmps18
    go_wp2_with (first | (go_at_call 17; refine hu.out.mono ?_; rintro e w1 ⟨rfl, h1⟩; have d0 := h1.rd.cell0; have d1 := h1.rd.cell1; have e0 := h1.rd.frozen 0; have e1 := h1.rd.frozen 1) | (go_at_call 34; refine (take_fault b s1 f1 N _ h1.rd (beq_eq_false_iff_ne.2 h0)).mono ?_; rintro e w2 ⟨rfl, rfl⟩))
    go_ret
    exact ⟨rfl, by simpa using h1.set0 s⟩

theorem txt_any (b : Nat) (s : ByteArray) (f : Int) (w : World) (h : Rd w b 61 s f) (hm : s.size ≤ maxLen) :
    Calls Try.prog 18 #[.pointer (some ⟨b, 0, none⟩)] w fun e w' => e = .returned (.string (txtOut s f)) ∧ Left b 61 w w' (txtS s f) (txtF s f) :=
  txt_gen b s (leftS s f 2) f (leftF s f 2) (txtN s f) w h (txtN_lt s f) (Nat.le_trans (leftS_le s f 2) hm) (Lib.hid (u16_any b s f w h hm))

theorem txt_nil (w : World) :
    Calls Try.prog 18 #[.pointer none] w fun e w' => e = .returned (.string .empty) ∧ w = w' := by
  go_enter Try.func18, Try.ntmps18
  go_wp2
  go_ret
  exact ⟨rfl, rfl⟩

/-! ### The document's reader: the same answers, the same state. -/
theorem rtake_fault (b : Nat) (s : ByteArray) (f n : Int) (w : World) (h : Rd w b 49 s f) (hf : (f == 0) = false) :
    Calls Try.prog 25 #[.pointer (some ⟨b, 0, none⟩), .int .i64 n] w fun e w' => e = .returned (.string .empty) ∧ w = w' := by
  have c0 := h.cell0
  have c1 := h.cell1
  go_enter Try.func25, Try.ntmps25
  go_wp2
  go_ret
  exact ⟨rfl, rfl⟩
theorem rtake_neg (b : Nat) (s : ByteArray) (n : Int) (w : World) (h : Rd w b 49 s 0) (hn : n < 0) :
    Calls Try.prog 25 #[.pointer (some ⟨b, 0, none⟩), .int .i64 n] w fun e w' => e = .returned (.string .empty) ∧ w.setCell ⟨b, 1, none⟩ (.int .i64 2) = w' := by
  have c0 := h.cell0
  have c1 := h.cell1
  have f1 := h.frozen 1
  go_enter Try.func25, Try.ntmps25
  go_wp2
  go_ret
  exact ⟨rfl, rfl⟩
theorem rtake_short (b : Nat) (s : ByteArray) (n : Int) (w : World) (h : Rd w b 49 s 0) (hn : 0 ≤ n) (hs : s.size < n) :
    Calls Try.prog 25 #[.pointer (some ⟨b, 0, none⟩), .int .i64 n] w fun e w' => e = .returned (.string .empty) ∧ w.setCell ⟨b, 1, none⟩ (.int .i64 7) = w' := by
  have c0 := h.cell0
  have c1 := h.cell1
  have f1 := h.frozen 1
  go_enter Try.func25, Try.ntmps25
  go_wp2
  go_ret
  exact ⟨rfl, rfl⟩
theorem rtake_ok (b : Nat) (s : ByteArray) (n : Nat) (w : World) (h : Rd w b 49 s 0) (hs : n ≤ s.size) :
    Calls Try.prog 25 #[.pointer (some ⟨b, 0, none⟩), .int .i64 n] w fun e w' => e = .returned (.string (s.extract 0 n)) ∧ w.setCell ⟨b, 0, none⟩ (.string (s.extract n s.size)) = w' := by
  have c0 := h.cell0
  have c1 := h.cell1
  have f0 := h.frozen 0
  go_enter Try.func25, Try.ntmps25
  go_wp2
  go_ret
  exact ⟨rfl, rfl⟩
theorem rtake_any (b : Nat) (s : ByteArray) (f n : Int) (w : World) (h : Rd w b 49 s f) :
    Calls Try.prog 25 #[.pointer (some ⟨b, 0, none⟩), .int .i64 n] w fun e w' => e = .returned (.string (outS s f n)) ∧ Left b 49 w w' (leftS s f n) (leftF s f n) := by
  by_cases hf : f = 0
  · subst hf
    by_cases hn : n < 0
    · have e : okB s 0 n = false := decide_eq_false (by omega)
      simp only [outS, leftS, leftF, e]
      refine (rtake_neg b s n w h hn).mono ?_
      rintro e w' ⟨rfl, rfl⟩
      exact ⟨by simp, by simpa [hn] using h.set1 2, Only.setCell _ _ _⟩
    · by_cases hs : (s.size : Int) < n
      · have e : okB s 0 n = false := decide_eq_false (by omega)
        simp only [outS, leftS, leftF, e]
        refine (rtake_short b s n w h (by omega) hs).mono ?_
        rintro e w' ⟨rfl, rfl⟩
        exact ⟨by simp, by simpa [hn, hs] using h.set1 7, Only.setCell _ _ _⟩
      · obtain ⟨n, rfl⟩ := Int.eq_ofNat_of_zero_le (Int.not_lt.1 hn)
        have e : okB s 0 n = true := decide_eq_true (by omega)
        simp only [outS, leftS, leftF, e]
        refine (rtake_ok b s n w h (by omega)).mono ?_
        rintro e w' ⟨rfl, rfl⟩
        exact ⟨by simp, by simpa [hn, hs] using h.set0 _, Only.setCell _ _ _⟩
  · have e : okB s f n = false := decide_eq_false (by omega)
    simp only [outS, leftS, leftF, e]
    refine (rtake_fault b s f n w h (beq_eq_false_iff_ne.2 hf)).mono ?_
    rintro e w' ⟨rfl, rfl⟩
    exact ⟨by simp, by simpa [hf] using h, Only.refl _ _⟩

theorem rnum_any (b : Nat) (s : ByteArray) (f : Int) (n : Nat) (w : World) (h : Rd w b 49 s f) (hn : n ≤ 8) :
    Calls Try.prog 24 #[.pointer (some ⟨b, 0, none⟩), .int .i64 n] w fun e w' => e = .returned (.int .u64 (numOf (outS s f n).data.toList)) ∧ Left b 49 w w' (leftS s f n) (leftF s f n) := by
  have ht : (outS s f n).size ≤ n := outS_size s f n
  go_enter Try.func24, Try.ntmps24
  go_wp2_with (go_at_call 25; refine (rtake_any b s f n _ h).mono ?_; rintro e w1 ⟨rfl, h1⟩)
  obtain ⟨t, hT⟩ : ∃ t, t = outS s f n := ⟨_, rfl⟩
  rw [← hT] at ht ⊢
  have HT := Lib.hid hT
  clear hT
  go_loop [6, 7] (fun x i => ∃ k : Nat, k ≤ t.size ∧ i = .int .i64 k ∧ x = .int .u64 (numOf (t.data.toList.take k))) (fun _ i => t.size - (intOf i).toNat)
  case atStart => exact ⟨0, Nat.zero_le _, rfl, rfl⟩
  case round =>
    obtain ⟨k, hk, rfl, rfl⟩ := hrel
    by_cases hlt : k < t.size
    · have hb : numOf (t.data.toList.take k) < 72057594037927936 := numOf_take_lt _ k 7 (by omega)
      have hb2 := t[k].toNat_lt
      have hst := Lib.hid (numOf_step t k hlt)
      go_wp2
      go_round
      case rel => exact ⟨k + 1, by omega, by go_num, by rw [hst.out]; go_num⟩
      case measure => simp [intOf]; omega
    · go_wp2
      go_ret
      obtain rfl : k = t.size := by omega
      refine ⟨ret_int ?_, h1⟩
      rw [List.take_of_length_le (by simp), ← HT.out]

theorem rend_any (b : Nat) (s : ByteArray) (f : Int) (w : World) (h : Rd w b 49 s f) :
    Calls Try.prog 27 #[.pointer (some ⟨b, 0, none⟩)] w fun e w' => e = .returned (.int .i64 (endF s f)) ∧ w = w' := by
  have c0 := h.cell0
  have c1 := h.cell1
  by_cases hf : f = 0
  · subst hf
    by_cases hs : s.size = 0
    · have e1 : s.toList = [] := by rw [ByteArray.toList_eq]; exact (toList_nil s).2 hs
      have e2 : (!s.toList.isEmpty) = false := by rw [e1]; rfl
      go_enter Try.func27, Try.ntmps27
      go_wp2
      go_ret
      exact ⟨by simp [endF, hs], rfl⟩
    · have e2 : (!s.toList.isEmpty) = true := by
        rw [ByteArray.toList_eq]
        cases hl : s.data.toList with
        | nil => exact absurd ((toList_nil s).1 hl) hs
        | cons a l => rfl
      go_enter Try.func27, Try.ntmps27
      go_wp2
      go_ret
      exact ⟨by simp [endF, hs], rfl⟩
  · go_enter Try.func27, Try.ntmps27
    go_wp2
    go_ret
    exact ⟨by simp [endF, hf], rfl⟩

end Go.Proofs.Ytojfjjlmlefoiaa
