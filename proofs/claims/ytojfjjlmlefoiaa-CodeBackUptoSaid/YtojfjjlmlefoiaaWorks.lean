/-
  The document's reader's Text; what the statements' small run (works) answers.
-/
import Derived.Test.YtojfjjlmlefoiaaReader
set_option linter.unusedVariables false
namespace Go.Proofs.Ytojfjjlmlefoiaa
open Go.RowKit

theorem rtxt_gen (b : Nat) (s s1 : ByteArray) (f f1 : Int) (N : Nat) (w : World) (h : Rd w b 49 s f) (hN : N < 65536) (hm : s1.size ≤ maxLen) (hm2 : s.size ≤ maxLen) (hs1 : s1.size < s.size ∨ s1 = s)
    (hu : Hid (Calls Try.prog 24 #[.pointer (some ⟨b, 0, none⟩), .int .i64 2] w fun e w' => e = .returned (.int .u64 N) ∧ Left b 49 w w' s1 f1)) :
    Calls Try.prog 26 #[.pointer (some ⟨b, 0, none⟩)] w fun e w' => e = .returned (.string (outS s1 (mid f1 N) N)) ∧ Left b 49 w w' (if okB s1 (mid f1 N) N then leftS s1 (mid f1 N) N else s) (leftF s1 (mid f1 N) N) := by
  unfold maxLen at hm hm2
  have c0 := h.cell0
  by_cases h0 : f1 = 0
  · subst h0
    by_cases hb : 32768 < N
    · have em : mid 0 N = 4 := by simp [mid, hb]
      have ek : okB s1 4 N = false := okB_fault _ _ _ (by decide)
      have ef : leftF s1 4 N = 4 := rfl
      have eo : outS s1 4 N = .empty := by simp [outS, ek]
      rw [em, ek, ef, eo]
      clear em ek ef eo
      rcases hs1 with hlt | rfl
      all_goals
        go_enter Try.func26, Try.ntmps26
        go_wp2_with (go_at_call 24; refine hu.out.mono ?_; rintro e w1 ⟨rfl, h1⟩; have d0 := h1.rd.cell0; have d1 := h1.rd.cell1; have e0 := h1.rd.frozen 0; have e1 := h1.rd.frozen 1)
        refine (rtake_fault b _ 4 N _ (h1.rd.set1 4) (by decide)).mono ?_
        rintro e w2 ⟨rfl, rfl⟩
        simp only []
        go_wp2
        go_ret
        first | exact ⟨rfl, by simpa using (h1.set1 4).set0 s⟩ | exact ⟨rfl, by simpa using h1.set1 4⟩
    · have em : mid 0 N = 0 := by simp [mid, hb]
      rw [em]
      clear em
      by_cases hs : N ≤ s1.size
      · have ek : okB s1 0 N = true := decide_eq_true (by omega)
        have ef : leftF s1 0 N = 0 := by simp [leftF]; omega
        have eo : outS s1 0 N = s1.extract 0 N := by simp [outS, ek]
        have el : leftS s1 0 N = s1.extract N s1.size := by simp [leftS, ek]
        rw [ek, ef, eo, el]
        clear ek ef eo el
        go_enter Try.func26, Try.ntmps26
        go_wp2_with (first | (go_at_call 24; refine hu.out.mono ?_; rintro e w1 ⟨rfl, h1⟩; have d0 := h1.rd.cell0; have d1 := h1.rd.cell1; have e0 := h1.rd.frozen 0; have e1 := h1.rd.frozen 1) | (go_at_call 25; refine (rtake_ok b s1 N _ h1.rd hs).mono ?_; rintro e w2 ⟨rfl, rfl⟩))
        go_ret
        exact ⟨rfl, by simpa using h1.set0 _⟩
      · have ek : okB s1 0 N = false := decide_eq_false (by omega)
        have ef : leftF s1 0 N = 7 := by simp [leftF]; omega
        have eo : outS s1 0 N = .empty := by simp [outS, ek]
        rw [ek, ef, eo]
        clear ek ef eo
        rcases hs1 with hlt | rfl
        all_goals
          go_enter Try.func26, Try.ntmps26
          go_wp2_with (first | (go_at_call 24; refine hu.out.mono ?_; rintro e w1 ⟨rfl, h1⟩; have d0 := h1.rd.cell0; have d1 := h1.rd.cell1; have e0 := h1.rd.frozen 0; have e1 := h1.rd.frozen 1) | (go_at_call 25; refine (rtake_short b _ N _ h1.rd (by omega) (by omega)).mono ?_; rintro e w2 ⟨rfl, rfl⟩))
          go_ret
          first | exact ⟨rfl, by simpa using (h1.set1 7).set0 s⟩ | exact ⟨rfl, by simpa using h1.set1 7⟩
  · have em : mid f1 N = f1 := by simp [mid, h0]
    have ek : okB s1 f1 N = false := okB_fault _ _ _ h0
    have ef : leftF s1 f1 N = f1 := by simp [leftF, h0]
    have eo : outS s1 f1 N = .empty := by simp [outS, ek]
    rw [em, ek, ef, eo]
    clear em ek ef eo
    rcases hs1 with hlt | rfl
    all_goals
      go_enter Try.func26, Try.ntmps26
      go_wp2_with (first | (go_at_call 24; refine hu.out.mono ?_; rintro e w1 ⟨rfl, h1⟩; have d0 := h1.rd.cell0; have d1 := h1.rd.cell1; have e0 := h1.rd.frozen 0; have e1 := h1.rd.frozen 1) | (go_at_call 25; refine (rtake_fault b _ f1 N _ h1.rd (beq_eq_false_iff_ne.2 h0)).mono ?_; rintro e w2 ⟨rfl, rfl⟩))
      go_ret
      first | exact ⟨rfl, by simpa using h1.set0 s⟩ | exact ⟨rfl, by simpa using h1⟩

theorem leftS_lt (s : ByteArray) (f : Int) : (leftS s f 2).size < s.size ∨ leftS s f 2 = s := by
  unfold leftS
  split
  · rename_i h
    left
    have h := of_decide_eq_true h
    simp [ByteArray.size_extract]
    omega
  · right; rfl

theorem rtxt_any (b : Nat) (s : ByteArray) (f : Int) (w : World) (h : Rd w b 49 s f) (hm : s.size ≤ maxLen) :
    Calls Try.prog 26 #[.pointer (some ⟨b, 0, none⟩)] w fun e w' => e = .returned (.string (txtOut s f)) ∧ Left b 49 w w' (txtS s f) (txtF s f) :=
  rtxt_gen b s (leftS s f 2) f (leftF s f 2) (txtN s f) w h (txtN_lt s f) (Nat.le_trans (leftS_le s f 2) hm) hm (leftS_lt s f) (Lib.hid (rnum_any b s f 2 w h (by decide)))

/-! ### The small run. -/
def W0 : ByteArray := ⟨#[1, 2, 0, 0, 0, 1, 0, 0, 0, 0, 0, 0, 0, 2, 0, 2, 97, 98]⟩
def W1 : ByteArray := ⟨#[0, 0, 0, 1, 0, 0, 0, 0, 0, 0, 0, 2, 0, 2, 97, 98]⟩
def W2 : ByteArray := ⟨#[0, 0, 0, 0, 0, 0, 0, 2, 0, 2, 97, 98]⟩
def W3 : ByteArray := ⟨#[0, 2, 97, 98]⟩

theorem Rd.below {w w' : World} {b : Nat} {T : TypeId} {s : ByteArray} {f : Int} (h : Rd w b T s f) {B : Nat} (hb : Below B w w') (hB : b < B) : Rd w' b T s f := by
  unfold Rd at *; rw [hb.block b hB]; exact h

theorem u16_at {b : Nat} {s s' : ByteArray} {f f' : Int} {x : Nat} (e1 : numOf (outS s f 2).data.toList = x) (e2 : leftS s f 2 = s') (e3 : leftF s f 2 = f') {w : World} (h : Rd w b 61 s f) (hm : s.size ≤ maxLen) :
    Calls Try.prog 17 #[.pointer (some ⟨b, 0, none⟩)] w fun e w' => e = .returned (.int .u16 x) ∧ Left b 61 w w' s' f' := by
  subst e1 e2 e3; exact u16_any b s f w h hm
theorem u32_at {b : Nat} {s s' : ByteArray} {f f' : Int} {x : Nat} (e1 : numOf (outS s f 4).data.toList = x) (e2 : leftS s f 4 = s') (e3 : leftF s f 4 = f') {w : World} (h : Rd w b 61 s f) (hm : s.size ≤ maxLen) :
    Calls Try.prog 16 #[.pointer (some ⟨b, 0, none⟩)] w fun e w' => e = .returned (.int .u32 x) ∧ Left b 61 w w' s' f' := by
  subst e1 e2 e3; exact u32_any b s f w h hm
theorem u64_at {b : Nat} {s s' : ByteArray} {f f' : Int} {x : Nat} (e1 : numOf (outS s f 8).data.toList = x) (e2 : leftS s f 8 = s') (e3 : leftF s f 8 = f') {w : World} (h : Rd w b 61 s f) (hm : s.size ≤ maxLen) :
    Calls Try.prog 15 #[.pointer (some ⟨b, 0, none⟩)] w fun e w' => e = .returned (.int .u64 x) ∧ Left b 61 w w' s' f' := by
  subst e1 e2 e3; exact u64_any b s f w h hm
theorem txt_at {b : Nat} {s s' o : ByteArray} {f f' : Int} (e1 : txtOut s f = o) (e2 : txtS s f = s') (e3 : txtF s f = f') {w : World} (h : Rd w b 61 s f) (hm : s.size ≤ maxLen) :
    Calls Try.prog 18 #[.pointer (some ⟨b, 0, none⟩)] w fun e w' => e = .returned (.string o) ∧ Left b 61 w w' s' f' := by
  subst e1 e2 e3; exact txt_any b s f w h hm
theorem text_at {s o : ByteArray} {f : Int} (e1 : textS s = o) (e2 : textE s = f) (w : World) (hm : s.size ≤ maxLen) :
    Calls Try.prog 8 #[.string s] w fun e w' => e = .returned (.tuple #[.string o, .int .i64 f]) ∧ Below w.heap.size w w' := by
  subst e1 e2; exact text_put s w hm
theorem new_at {s t : ByteArray} (e1 : s = t) (w : World) :
    Calls Try.prog 14 #[.string s] w fun e w' => e = .returned (.pointer (some ⟨w.heap.size, 0, none⟩)) ∧ Rd w' w.heap.size 61 t 0 ∧ Below w.heap.size w w' := by
  subst e1; exact new_any s w
theorem put16_at {x : Nat} {o : ByteArray} (e1 : beS x 2 = o) (w : World) (hx : x < 65536) :
    Calls Try.prog 10 #[.int .u16 x] w fun e w' => e = .returned (.string o) ∧ Below w.heap.size w w' := by
  subst e1; exact put16 x w hx
theorem put32_at {x : Nat} {o : ByteArray} (e1 : beS x 4 = o) (w : World) (hx : x < 4294967296) :
    Calls Try.prog 12 #[.int .u32 x] w fun e w' => e = .returned (.string o) ∧ Below w.heap.size w w' := by
  subst e1; exact put32 x w hx
theorem put64_at {x : Nat} {o : ByteArray} (e1 : beS x 8 = o) (w : World) (hx : x < 18446744073709551616) :
    Calls Try.prog 13 #[.int .u64 x] w fun e w' => e = .returned (.string o) ∧ Below w.heap.size w w' := by
  subst e1; exact put64 x w hx

theorem end_at {b : Nat} {s : ByteArray} {f f' : Int} (e1 : endF s f = f') {w : World} (h : Rd w b 61 s f) :
    Calls Try.prog 21 #[.pointer (some ⟨b, 0, none⟩)] w fun e w' => e = .returned (.int .i64 f') ∧ w = w' := by
  subst e1; exact end_any b s f w h
theorem left_at {b n : Nat} {s : ByteArray} {f : Int} (e1 : s.size = n) {w : World} (h : Rd w b 61 s f) :
    Calls Try.prog 19 #[.pointer (some ⟨b, 0, none⟩)] w fun e w' => e = .returned (.int .i64 n) ∧ w = w' := by
  subst e1; exact left_any b s f w h
theorem _root_.Go.RowKit.Below.more {w w1 w2 : World} (h : Below w.heap.size w w1) (k : Below w1.heap.size w1 w2) : Below w.heap.size w w2 := h.trans (k.mono h.size)
theorem _root_.Go.RowKit.Below.with {b : Nat} {w w1 w2 : World} (h : Below w.heap.size w w1) (k : Only b w1 w2) (hb : w.heap.size ≤ b) : Below w.heap.size w w2 := h.trans (k.below hb h.size)

theorem works_any (w : World) : Calls Try.prog 7 #[] w fun e w' => e = .returned (.bool true) ∧ Below w.heap.size w w' := by
  go_enter Try.func7, Try.ntmps7
  go_wp2_with fail
  refine (text_at (o := ⟨#[0, 2, 97, 98]⟩) (f := 0) (by decide +kernel) (by decide +kernel) _ (by decide)).mono ?_
  rintro e w1 ⟨rfl, b1⟩
  simp only []
  go_wp2_with fail
  refine (put16_at (x := 258) (o := ⟨#[1, 2]⟩) (by decide +kernel) _ (by decide)).mono ?_
  rintro e w2 ⟨rfl, b2⟩
  simp only []
  go_wp2_with fail
  refine (put32_at (x := 1) (o := ⟨#[0, 0, 0, 1]⟩) (by decide +kernel) _ (by decide)).mono ?_
  rintro e w3 ⟨rfl, b3⟩
  simp only []
  go_wp2_with fail
  refine (put64_at (x := 2) (o := ⟨#[0, 0, 0, 0, 0, 0, 0, 2]⟩) (by decide +kernel) _ (by decide)).mono ?_
  rintro e w4 ⟨rfl, b4⟩
  simp only []
  go_wp2_with fail
  refine (new_at (t := W0) (by decide +kernel) _).mono ?_
  rintro e w5 ⟨rfl, r5, b5⟩
  simp only []
  go_wp2_with fail
  refine (u16_at (x := 258) (s' := W1) (f' := 0) (by decide +kernel) (by decide +kernel) (by decide +kernel) r5 (by decide)).mono ?_
  rintro e w6 ⟨rfl, r6⟩
  simp only []
  go_wp2_with fail
  refine (u32_at (x := 1) (s' := W2) (f' := 0) (by decide +kernel) (by decide +kernel) (by decide +kernel) r6.rd (by decide)).mono ?_
  rintro e w7 ⟨rfl, r7⟩
  simp only []
  go_wp2_with fail
  refine (u64_at (x := 2) (s' := W3) (f' := 0) (by decide +kernel) (by decide +kernel) (by decide +kernel) r7.rd (by decide)).mono ?_
  rintro e w8 ⟨rfl, r8⟩
  simp only []
  go_wp2_with fail
  refine (txt_at (o := ⟨#[97, 98]⟩) (s' := .empty) (f' := 0) (by decide +kernel) (by decide +kernel) (by decide +kernel) r8.rd (by decide)).mono ?_
  rintro e w9 ⟨rfl, r9⟩
  simp only []
  go_wp2_with fail
  refine (new_any ⟨#[255, 255]⟩ _).mono ?_
  rintro e w10 ⟨rfl, r10, b10⟩
  simp only []
  go_wp2_with fail
  refine (txt_at (o := .empty) (s' := ⟨#[255, 255]⟩) (f' := 4) (by decide +kernel) (by decide +kernel) (by decide +kernel) r10 (by decide)).mono ?_
  rintro e w11 ⟨rfl, r11⟩
  simp only []
  have q9 := (r9.rd.below b10 r9.rd.lt).below (r11.only.below (Nat.le_refl _) b10.size) r9.rd.lt
  have k5 := (((b1.more b2).more b3).more b4).more b5
  have l5 := (((b1.more b2).more b3).more b4).size
  have k9 := (((k5.with r6.only l5).with r7.only l5).with r8.only l5).with r9.only l5
  have k11 := (k9.more b10).with r11.only k9.size
  clear b1 b2 b3 b4 b5 k5 l5 k9 b10
  go_wp2_with fail
  refine (end_at (f' := 0) (by decide +kernel) q9).mono ?_
  rintro e w12 ⟨rfl, rfl⟩
  simp only []
  go_wp2_with fail
  refine (fault_any _ _ 4 _ r11.rd).mono ?_
  rintro e w12 ⟨rfl, rfl⟩
  simp only []
  go_wp2_with fail
  refine (left_at (n := 2) (by decide +kernel) r11.rd).mono ?_
  rintro e w12 ⟨rfl, rfl⟩
  simp only []
  go_wp2_with fail
  go_ret
  exact ⟨rfl, k11⟩

end Go.Proofs.Ytojfjjlmlefoiaa
