/-
  The reader's numbers: what number answers at each kind, and what it leaves.
-/
import Derived.Test.YtgonakpoflacoaaTake
import Derived.Laws.IdiomStrings
import Derived.Laws.Bits64b
import Derived.Handy
set_option linter.unusedVariables false
namespace Go.Proofs.Ytgonakpoflacoaa
open Go.RowKit

/-- The number of bytes, the highest first. -/
def numOf (l : List UInt8) : Nat := l.foldl (fun x c => x * 256 + c.toNat) 0

theorem numOf_snoc (l : List UInt8) (c : UInt8) : numOf (l ++ [c]) = numOf l * 256 + c.toNat := by simp [numOf]
theorem numOf_from (l : List UInt8) : ∀ a : Nat, l.foldl (fun x c => x * 256 + c.toNat) a < (a + 1) * 256 ^ l.length := by
  induction l with
  | nil => intro a; simp
  | cons c l ih =>
    intro a
    have h := ih (a * 256 + c.toNat)
    have hc := c.toNat_lt
    simp only [List.foldl_cons, List.length_cons, Nat.pow_succ]
    refine Nat.lt_of_lt_of_le h ?_
    have : (a * 256 + c.toNat + 1) * 256 ^ l.length ≤ (a + 1) * 256 * 256 ^ l.length := Nat.mul_le_mul_right _ (by omega)
    calc _ ≤ _ := this
      _ = _ := by rw [Nat.mul_assoc, Nat.mul_comm 256]
theorem numOf_lt (l : List UInt8) : numOf l < 256 ^ l.length := by simpa [numOf] using numOf_from l 0
theorem numOf_take_lt (l : List UInt8) (k n : Nat) (h : k ≤ n) : numOf (l.take k) < 256 ^ n :=
  Nat.lt_of_lt_of_le (numOf_lt _) (Nat.pow_le_pow_right (by decide) (Nat.le_trans (List.length_take_le _ _) h))
theorem numOf_step (s : ByteArray) (k : Nat) (h : k < s.size) : numOf (s.data.toList.take (k + 1)) = numOf (s.data.toList.take k) * 256 + s[k].toNat := by
  rw [List.take_succ_eq_append_getElem (by simpa using h), numOf_snoc]; rfl
theorem or_byte (a : Nat) (c : UInt8) (ha : a < 72057594037927936) : bits .or .u64 ((a : Int) * 256) (c.toNat : Int) = ((a * 256 + c.toNat : Nat) : Int) := by
  have hc := c.toNat_lt
  have e : ((a : Int) * 256) = ((a * 256 : Nat) : Int) := by omega
  rw [e, bits_or_u64_nat _ _ (by omega) (by omega)]
  have h := Nat.shiftLeft_add_eq_or_of_lt (i := 8) (b := c.toNat) (by omega) a
  rw [Nat.shiftLeft_eq] at h
  rw [h]

theorem bytesRow_cell (w : World) (s : ByteArray) (cap : Nat) (t : TypeId) (fr : Nat × Nat) (k : Nat) (hk : k < s.size) :
    (w.alloc (.cells (bytesRow s cap) t fr)).cell? ⟨w.heap.size, k, none⟩ = some (.int .u8 (s[k].toNat : Int)) := by
  rw [World.cell?_alloc_mark]
  unfold bytesRow
  rw [Array.getElem?_append_left (by simpa using hk)]
  simp [ByteArray.getElem_eq_getElem_data, hk]

theorem outS_size (s : ByteArray) (f : Int) (n : Nat) : (outS s f n).size ≤ n := by
  unfold outS okB
  split
  · simp [ByteArray.size_extract]; omega
  · simp

theorem Only.drew {b : Nat} {u w : World} (h : Only b u w) : Only b u w.drew := ⟨h.os, h.tape, h.output, h.size, h.block⟩
theorem Only.alloc {b : Nat} {u w : World} (h : Only b u w) (o : Obj) : Only b u (w.alloc o) :=
  ⟨h.os, h.tape, h.output, by have := h.size; simp; omega, fun k hk hne => by rw [Below.heap_alloc _ _ _ (Nat.lt_of_lt_of_le hk h.size)]; exact h.block k hk hne⟩
theorem Left.drew {b : Nat} {T : TypeId} {u w : World} {s : ByteArray} {f : Int} (h : Left b T u w s f) : Left b T u w.drew s f := ⟨h.rd, h.only.drew⟩
theorem Left.alloc {b : Nat} {T : TypeId} {u w : World} {s : ByteArray} {f : Int} (h : Left b T u w s f) (o : Obj) : Left b T u (w.alloc o) s f :=
  ⟨by have := h.rd; unfold Rd at *; rw [Below.heap_alloc _ _ _ h.rd.lt]; exact this, h.only.alloc o⟩
theorem val_int {k : IntKind} {a b : Int} (h : a = b) : Value.int k a = .int k b := by rw [h]
theorem ret_int {k : IntKind} {a b : Int} (h : a = b) : Ending.returned (.int k a) = .returned (.int k b) := by rw [h]

theorem number64 (b : Nat) (s : ByteArray) (f : Int) (w : World) (h : Rd w b 72 s f) (hm : s.size ≤ maxLen) :
    Calls Try.prog 50 #[.pointer (some ⟨b, 0, none⟩), .int .i64 8] w fun e w' => e = .returned (.int .u64 (numOf (outS s f 8).data.toList)) ∧ Left b 72 w w' (leftS s f 8) (leftF s f 8) := by
  have ht : (outS s f 8).size ≤ 8 := outS_size s f 8
  go_enter Try.func50, Try.ntmps50
  go_wp2_with (go_at_call 52; refine (take_any b s f 8 _ h hm).mono ?_; rintro e w1 ⟨rfl, h1⟩)
  obtain ⟨t, hT⟩ : ∃ t, t = outS s f 8 := ⟨_, rfl⟩
  rw [← hT] at ht ⊢
  have HT := Lib.hid hT
  clear hT
  have hconv := run_bytes_of_string (P := Try.prog) w1 9 37 5 t Try.underlying9 Try.underlying37 Try.underlying5
  obtain ⟨cap, hcap⟩ : ∃ cap, cap = grownCap w1 t.size 0 5 := ⟨_, rfl⟩
  rw [← hcap] at hconv
  clear hcap
  have hcell := bytesRow_cell w1.drew t cap 5 ((bytesRow t cap).size, (bytesRow t cap).size + 1)
  have hL := h1.drew.alloc (.cells (bytesRow t cap) 5 ((bytesRow t cap).size, (bytesRow t cap).size + 1))
  obtain ⟨w2, hw2⟩ : ∃ w2, w2 = w1.drew.alloc (.cells (bytesRow t cap) 5 ((bytesRow t cap).size, (bytesRow t cap).size + 1)) := ⟨_, rfl⟩
  rw [← hw2] at hconv hcell hL
  clear hw2
  simp only [World.size_drew] at hcell
  go_simp
  go_wp2
  go_loop [4, 18] (fun x i => ∃ k : Nat, k ≤ t.size ∧ i = .int .i64 k ∧ x = .int .u64 (numOf (t.data.toList.take k))) (fun _ i => t.size - (intOf i).toNat)
  case atStart => exact ⟨0, Nat.zero_le _, rfl, rfl⟩
  case round =>
    obtain ⟨k, hk, rfl, rfl⟩ := hrel
    by_cases hlt : k < t.size
    · have hc := hcell k hlt
      have hb : numOf (t.data.toList.take k) < 72057594037927936 := numOf_take_lt _ k 7 (by omega)
      have hb2 := t[k].toNat_lt
      have hor := or_byte (numOf (t.data.toList.take k)) t[k] (by omega)
      have hst := Lib.hid (numOf_step t k hlt)
      have hb3 : (((numOf (t.data.toList.take k) * 256 + t[k].toNat : Nat)) : Int) < 18446744073709551616 := by omega
      have HO := Lib.hid hor
      clear hor
      clear hcell
      go_wp2
      go_round
      case rel =>
        refine ⟨k + 1, by omega, by go_num, ?_⟩
        rw [hst.out]
        have := HO.out
        refine val_int ?_
        first | (rw [this]; done) | (rw [this]; omega) | (rw [this]; simp only [IntKind.wrap_u16]; omega)
      case measure => simp [intOf]; omega
    · clear hcell
      go_wp2
      go_ret
      obtain rfl : k = t.size := by omega
      refine ⟨ret_int ?_, hL⟩
      rw [List.take_of_length_le (by simp), ← HT.out]

theorem number16 (b : Nat) (s : ByteArray) (f : Int) (w : World) (h : Rd w b 72 s f) (hm : s.size ≤ maxLen) :
    Calls Try.prog 49 #[.pointer (some ⟨b, 0, none⟩), .int .i64 2] w fun e w' => e = .returned (.int .u16 (numOf (outS s f 2).data.toList)) ∧ Left b 72 w w' (leftS s f 2) (leftF s f 2) := by
  have ht : (outS s f 2).size ≤ 2 := outS_size s f 2
  go_enter Try.func49, Try.ntmps49
  go_wp2_with (go_at_call 52; refine (take_any b s f 2 _ h hm).mono ?_; rintro e w1 ⟨rfl, h1⟩)
  obtain ⟨t, hT⟩ : ∃ t, t = outS s f 2 := ⟨_, rfl⟩
  rw [← hT] at ht ⊢
  have HT := Lib.hid hT
  clear hT
  have hconv := run_bytes_of_string (P := Try.prog) w1 9 37 5 t Try.underlying9 Try.underlying37 Try.underlying5
  obtain ⟨cap, hcap⟩ : ∃ cap, cap = grownCap w1 t.size 0 5 := ⟨_, rfl⟩
  rw [← hcap] at hconv
  clear hcap
  have hcell := bytesRow_cell w1.drew t cap 5 ((bytesRow t cap).size, (bytesRow t cap).size + 1)
  have hL := h1.drew.alloc (.cells (bytesRow t cap) 5 ((bytesRow t cap).size, (bytesRow t cap).size + 1))
  obtain ⟨w2, hw2⟩ : ∃ w2, w2 = w1.drew.alloc (.cells (bytesRow t cap) 5 ((bytesRow t cap).size, (bytesRow t cap).size + 1)) := ⟨_, rfl⟩
  rw [← hw2] at hconv hcell hL
  clear hw2
  simp only [World.size_drew] at hcell
  go_simp
  go_wp2
  go_loop [4, 18] (fun x i => ∃ k : Nat, k ≤ t.size ∧ i = .int .i64 k ∧ x = .int .u16 (numOf (t.data.toList.take k))) (fun _ i => t.size - (intOf i).toNat)
  case atStart => exact ⟨0, Nat.zero_le _, rfl, rfl⟩
  case round =>
    obtain ⟨k, hk, rfl, rfl⟩ := hrel
    by_cases hlt : k < t.size
    · have hc := hcell k hlt
      have hb : numOf (t.data.toList.take k) < 256 := numOf_take_lt _ k 1 (by omega)
      have hb2 := t[k].toNat_lt
      have hor := or_byte (numOf (t.data.toList.take k)) t[k] (by omega)
      have hst := Lib.hid (numOf_step t k hlt)
      have hb3 : (((numOf (t.data.toList.take k) * 256 + t[k].toNat : Nat)) : Int) < 65536 := by omega
      have HO := Lib.hid hor
      clear hor
      clear hcell
      go_wp2
      go_round
      case rel =>
        refine ⟨k + 1, by omega, by go_num, ?_⟩
        rw [hst.out]
        have := HO.out
        refine val_int ?_
        first | (rw [this]; done) | (rw [this]; omega) | (rw [this]; simp only [IntKind.wrap_u16]; omega)
      case measure => simp [intOf]; omega
    · clear hcell
      go_wp2
      go_ret
      obtain rfl : k = t.size := by omega
      refine ⟨ret_int ?_, hL⟩
      rw [List.take_of_length_le (by simp), ← HT.out]

theorem number8 (b : Nat) (s : ByteArray) (f : Int) (w : World) (h : Rd w b 72 s f) (hm : s.size ≤ maxLen) :
    Calls Try.prog 51 #[.pointer (some ⟨b, 0, none⟩), .int .i64 1] w fun e w' => e = .returned (.int .u8 (numOf (outS s f 1).data.toList)) ∧ Left b 72 w w' (leftS s f 1) (leftF s f 1) := by
  have ht : (outS s f 1).size ≤ 1 := outS_size s f 1
  go_enter Try.func51, Try.ntmps51
  go_wp2_with (go_at_call 52; refine (take_any b s f 1 _ h hm).mono ?_; rintro e w1 ⟨rfl, h1⟩)
  obtain ⟨t, hT⟩ : ∃ t, t = outS s f 1 := ⟨_, rfl⟩
  rw [← hT] at ht ⊢
  have HT := Lib.hid hT
  clear hT
  have hconv := run_bytes_of_string (P := Try.prog) w1 9 37 5 t Try.underlying9 Try.underlying37 Try.underlying5
  obtain ⟨cap, hcap⟩ : ∃ cap, cap = grownCap w1 t.size 0 5 := ⟨_, rfl⟩
  rw [← hcap] at hconv
  clear hcap
  have hcell := bytesRow_cell w1.drew t cap 5 ((bytesRow t cap).size, (bytesRow t cap).size + 1)
  have hL := h1.drew.alloc (.cells (bytesRow t cap) 5 ((bytesRow t cap).size, (bytesRow t cap).size + 1))
  obtain ⟨w2, hw2⟩ : ∃ w2, w2 = w1.drew.alloc (.cells (bytesRow t cap) 5 ((bytesRow t cap).size, (bytesRow t cap).size + 1)) := ⟨_, rfl⟩
  rw [← hw2] at hconv hcell hL
  clear hw2
  simp only [World.size_drew] at hcell
  go_simp
  go_wp2
  go_loop [4, 18] (fun x i => ∃ k : Nat, k ≤ t.size ∧ i = .int .i64 k ∧ x = .int .u8 (numOf (t.data.toList.take k))) (fun _ i => t.size - (intOf i).toNat)
  case atStart => exact ⟨0, Nat.zero_le _, rfl, rfl⟩
  case round =>
    obtain ⟨k, hk, rfl, rfl⟩ := hrel
    by_cases hlt : k < t.size
    · have hc := hcell k hlt
      have hb : numOf (t.data.toList.take k) < 1 := numOf_take_lt _ k 0 (by omega)
      have hb2 := t[k].toNat_lt
      have hor := or_byte (numOf (t.data.toList.take k)) t[k] (by omega)
      have hst := Lib.hid (numOf_step t k hlt)
      have hb3 : (((numOf (t.data.toList.take k) * 256 + t[k].toNat : Nat)) : Int) < 256 := by omega
      have HO := Lib.hid hor
      clear hor
      clear hcell
      go_wp2
      go_round
      case rel =>
        refine ⟨k + 1, by omega, by go_num, ?_⟩
        rw [hst.out]
        have := HO.out
        refine val_int ?_
        first | (rw [this]; done) | (rw [this]; omega) | (rw [this]; simp only [IntKind.wrap_u16]; omega)
      case measure => simp [intOf]; omega
    · clear hcell
      go_wp2
      go_ret
      obtain rfl : k = t.size := by omega
      refine ⟨ret_int ?_, hL⟩
      rw [List.take_of_length_le (by simp), ← HT.out]

end Go.Proofs.Ytgonakpoflacoaa
