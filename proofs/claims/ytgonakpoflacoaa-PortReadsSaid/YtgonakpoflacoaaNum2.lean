/-
  Two bytes as a number, by the document.
-/
import Derived.Test.YtgonakpoflacoaaHeads
import Derived.Deep.QuietTactic
import Derived.BigQuiet
import Derived.Outline
set_option linter.unusedVariables false
set_option linter.unusedSimpArgs false
namespace Go.Proofs.Ytgonakpoflacoaa
open Go.RowKit

theorem below_dn {B : Nat} {a w : World} (h : Below B a w) (n : Nat) : Below B a (w.drewN n) := h.trans ⟨rfl, rfl, rfl, Nat.le_refl _, fun _ _ => rfl⟩

theorem byt_Lf (d : ByteArray) (i j : Nat) : byt (Lf d i) j = byt d (i + j) := by
  unfold byt
  rw [Lf_list]
  simp [List.getD_eq_getElem?_getD]
theorem byt_get (d : ByteArray) (i : Nat) (h : i < d.size) : (d[i]'h).toNat = byt d i := by
  unfold byt
  rw [List.getD_eq_getElem?_getD, List.getElem?_eq_getElem (by simpa using h)]
  rfl
theorem ix_at (d : ByteArray) (i : Nat) (h : i < d.size) : ∀ u, (Instr.index 9 (.string d) (.int .i64 i)).run Try.prog u = .ok (.int .u8 (byt d i)) u := fun u => by
  rw [run_index_string u 9 d .i64 i Try.underlying9, dif_pos ⟨by omega, by omega⟩]
  rw [← byt_get d i h]
  rfl
theorem or_two (a b : Nat) (ha : a < 256) (hb : b < 256) : bits .or .u16 ((a : Int) * 256) (b : Int) = ((a * 256 + b : Nat) : Int) := by
  have hx : a * 256 ||| b < 2 ^ 16 := Nat.or_lt_two_pow (by omega) (by omega)
  have e : ((a : Int) * 256) = ((a * 256 : Nat) : Int) := by omega
  rw [e]
  have h1 : (BitVec.ofInt 16 ((a * 256 : Nat) : Int)).toNat = a * 256 := by
    rw [BitVec.ofInt_natCast, BitVec.toNat_ofNat]; exact Nat.mod_eq_of_lt (by omega)
  have h2 : (BitVec.ofInt 16 (b : Int)).toNat = b := by
    rw [BitVec.ofInt_natCast, BitVec.toNat_ofNat]; exact Nat.mod_eq_of_lt (by omega)
  have h := Nat.shiftLeft_add_eq_or_of_lt (i := 8) (b := b) (by omega) a
  rw [Nat.shiftLeft_eq] at h
  show IntKind.u16.wrap ((BitVec.ofInt 16 ((a * 256 : Nat) : Int) ||| BitVec.ofInt 16 (b : Int)).toNat : Int) = _
  rw [BitVec.toNat_or, h1, h2, IntKind.wrap_u16, ← h]
  omega
set_option maxHeartbeats 1000000 in
theorem num_two (s : ByteArray) (w : World) (h : 2 ≤ s.size) : Calls Try.prog 31 #[.string s] w fun e w' => e = .returned (.int .u16 (n2 s 0)) ∧ Below w.heap.size w w' := by
  have i0 : ∀ u, (Instr.index 9 (.string s) (.int .i64 0)).run Try.prog u = .ok (.int .u8 (byt s 0)) u := ix_at s 0 (by omega)
  have i1 : ∀ u, (Instr.index 9 (.string s) (.int .i64 1)).run Try.prog u = .ok (.int .u8 (byt s 1)) u := ix_at s 1 (by omega)
  obtain ⟨a, ha⟩ : ∃ x, x = byt s 0 := ⟨_, rfl⟩
  obtain ⟨b, hb⟩ : ∃ x, x = byt s 1 := ⟨_, rfl⟩
  have hn : n2 s 0 = a * 256 + b := by rw [ha, hb]; rfl
  have a1 : (a : Int) < 256 := by have := byt_lt s 0; omega
  have b1 : (b : Int) < 256 := by have := byt_lt s 1; omega
  rw [← ha] at i0
  rw [← hb] at i1
  have HN := Lib.hid (And.intro hn h)
  clear ha hb hn h
  go_enter Try.func31, Try.ntmps31
  go_wp2_with fail
  go_quiet (fail)
  go_wp2_with fail
  go_ret
  exact ⟨by rw [HN.out.1, ← or_two a b (by omega) (by omega)]; rfl, below_dn (Below.refl _ _) _⟩
theorem n2_Lf (d : ByteArray) (i : Nat) : n2 (Lf d i) 0 = n2 d i := by
  unfold n2
  rw [byt_Lf, byt_Lf]
  rfl
theorem num_at (d : ByteArray) (i : Nat) (w : World) (h : i + 2 ≤ d.size) : Calls Try.prog 31 #[.string (Lf d i)] w fun e w' => e = .returned (.int .u16 (n2 d i)) ∧ Below w.heap.size w w' := by
  have := num_two (Lf d i) w (by rw [Lf_size]; omega)
  rw [n2_Lf] at this
  exact this
theorem slice_at (d : ByteArray) (i : Nat) (h : i ≤ d.size) : ∀ u, (Instr.slice 9 (.string d) (some (.int .i64 i)) none none).run Try.prog u = .ok (.string (Lf d i)) u := fun u => by
  rw [run_slice_string_from_if u 9 d .i64 i Try.underlying9, if_pos (by omega), Int.toNat_natCast]
  rfl

end Go.Proofs.Ytgonakpoflacoaa
