/-
  Numbers as bytes, the highest first: the code's and the document's.
-/
import Derived.Test.YtgonakpoflacoaaNumber
import Derived.Deep.OwnRows
set_option linter.unusedVariables false
namespace Go.Proofs.Ytgonakpoflacoaa
open Go.RowKit

/-- A number as n bytes, the highest first. -/
def beL (x n : Nat) : List UInt8 := (List.range n).map fun j => UInt8.ofNat (x / 256 ^ (n - 1 - j))
def beS (x n : Nat) : ByteArray := ⟨(beL x n).toArray⟩

theorem beL_length (x n : Nat) : (beL x n).length = n := by simp [beL]
theorem beL_get (x n j : Nat) (h : j < (beL x n).length) : ((beL x n)[j].toNat : Int) = ((x / 256 ^ (n - 1 - j) % 256 : Nat) : Int) := by simp [beL]
theorem beS_size (x n : Nat) : (beS x n).size = n := by simp [beS, ByteArray.size, beL_length]

theorem Try.info5 : (Try.prog.info? 5).map (fun i => (i.zero, i.size, i.bytes)) = some (some (.int .u8 0), 1, 1) := by kernel_rfl

theorem conv_back (w : World) (b n : Nat) (l : List UInt8) (f : Nat → Value) (hl : l.length = n) (hr : w.rowIs b 5 n f) (hf : ∀ j (hj : j < l.length), f j = .int .u8 (l[j].toNat : Int)) (c : Nat) :
    (convert 37 9 (.slice (some ⟨b, 0, none⟩) n c)).run Try.prog w = .ok (.string ⟨l.toArray⟩) w := by
  subst hl
  exact run_convert_bytes_back w 37 9 5 ⟨b, 0, none⟩ c l Try.underlying37 Try.underlying5 Try.underlying9 (fun j hj => by
    have h := hr.cell (i := j) hj
    rw [hf j hj] at h
    have e : (⟨b, 0, none⟩ : Addr).add j = ⟨b, j, none⟩ := by simp [Addr.add]; intro h; rw [h]
    rw [e]
    exact h)

theorem pow8 (k : Nat) : ((2 : Int) ^ (8 * k)) = ((256 ^ k : Nat) : Int) := by
  rw [Int.natCast_pow, Int.pow_mul]; rfl
theorem byte_at (x k : Nat) : (x : Int) / 2 ^ (8 * k) % 256 = ((x / 256 ^ k % 256 : Nat) : Int) := by
  rw [pow8]; omega

theorem be_step {w : World} {b n k x : Nat} (h : w.rowIs b 5 n (fun j => .int .u8 (if n ≤ j + k then ((x / 256 ^ (n - 1 - j) % 256 : Nat) : Int) else 0))) (hk : k < n) (v : Int)
    (hv : v = ((x / 256 ^ k % 256 : Nat) : Int)) :
    (w.setCell ⟨b, n - 1 - k, none⟩ (.int .u8 v)).rowIs b 5 n (fun j => .int .u8 (if n ≤ j + (k + 1) then ((x / 256 ^ (n - 1 - j) % 256 : Nat) : Int) else 0)) := by
  refine (h.set _ _).congr (fun j hj => ?_)
  by_cases e : j = n - 1 - k
  · subst e
    rw [if_pos rfl, if_pos (by omega), hv]
    have : n - 1 - (n - 1 - k) = k := by omega
    rw [this]
  · rw [if_neg e]
    by_cases e2 : n ≤ j + k
    · rw [if_pos e2, if_pos (by omega)]
    · rw [if_neg e2, if_neg (by omega)]

theorem be_done {w : World} {b n x : Nat} (h : w.rowIs b 5 n (fun j => .int .u8 (if n ≤ j + n then ((x / 256 ^ (n - 1 - j) % 256 : Nat) : Int) else 0))) (c : Nat) :
    (convert 37 9 (.slice (some ⟨b, 0, none⟩) n c)).run Try.prog w = .ok (.string (beS x n)) w :=
  conv_back w b n (beL x n) _ (beL_length x n) h (fun j hj => by rw [if_pos (by omega), beL_get]) c

theorem bytes64 (x : Nat) (n : Nat) (w : World) (hx : x < 18446744073709551616) (hn0 : 1 ≤ n) (hn : n ≤ 8) :
    Calls Try.prog 35 #[.int .u64 x, .int .i64 n] w fun e w' => e = .returned (.string (beS x n)) ∧ Below w.heap.size w w' := by
  have hmk := run_make_row' (P := Try.prog) 37 5 (.int .u8 0) 1 Try.underlying37 Try.info5 rfl .i64 .i64 n (by omega) (by omega)
  go_enter Try.func35, Try.ntmps35
  go_wp2
  have hrow := World.rowIs_made w (.int .u8 0) n 5
  have hbl := (Below.refl w.heap.size w).alloc (Nat.le_refl _) (.cells (madeCells #[.int .u8 0] n) 5)
  clear hmk
  obtain ⟨w1, hw1⟩ : ∃ w1, w1 = w.alloc (.cells (madeCells #[.int .u8 0] n) 5) := ⟨_, rfl⟩
  rw [← hw1] at hrow hbl ⊢
  clear hw1
  go_loopw [11] (fun i wr => ∃ k : Nat, k ≤ n ∧ i = .int .i64 k ∧ wr.rowIs w.heap.size 5 n (fun j => .int .u8 (if n ≤ j + k then ((x / 256 ^ (n - 1 - j) % 256 : Nat) : Int) else 0)) ∧ Below w.heap.size w wr) (fun i _ => n - (intOf i).toNat)
  case atStart => exact ⟨0, Nat.zero_le _, rfl, hrow.congr (fun i hi => by rw [if_neg (by omega)]), hbl⟩
  case round =>
    obtain ⟨k, hk, rfl, hr, hb⟩ := hrel
    clear hrow hbl
    by_cases hlt : k < n
    · have hc := hr.cell (i := n - 1 - k) (by omega)
      have hf := hr.frozen (n - 1 - k)
      go_wp2
      go_roundw
      case rel => exact ⟨k + 1, by omega, by go_num, be_step hr hlt _ (byte_at x k), hb.setCell (Nat.le_refl _) _⟩
      case measure => simp [intOf]; omega
    · obtain rfl : k = n := by omega
      have hconv := be_done hr k
      go_wp2
      go_simp
      go_wp2
      go_ret
      exact ⟨rfl, hb⟩

theorem bytes32 (x : Nat) (n : Nat) (w : World) (hx : x < 4294967296) (hn0 : 1 ≤ n) (hn : n ≤ 8) :
    Calls Try.prog 54 #[.int .u32 x, .int .i64 n] w fun e w' => e = .returned (.string (beS x n)) ∧ Below w.heap.size w w' := by
  have hmk := run_make_row' (P := Try.prog) 37 5 (.int .u8 0) 1 Try.underlying37 Try.info5 rfl .i64 .i64 n (by omega) (by omega)
  go_enter Try.func54, Try.ntmps54
  go_wp2
  have hrow := World.rowIs_made w (.int .u8 0) n 5
  have hbl := (Below.refl w.heap.size w).alloc (Nat.le_refl _) (.cells (madeCells #[.int .u8 0] n) 5)
  clear hmk
  obtain ⟨w1, hw1⟩ : ∃ w1, w1 = w.alloc (.cells (madeCells #[.int .u8 0] n) 5) := ⟨_, rfl⟩
  rw [← hw1] at hrow hbl ⊢
  clear hw1
  go_loopw [11] (fun i wr => ∃ k : Nat, k ≤ n ∧ i = .int .i64 k ∧ wr.rowIs w.heap.size 5 n (fun j => .int .u8 (if n ≤ j + k then ((x / 256 ^ (n - 1 - j) % 256 : Nat) : Int) else 0)) ∧ Below w.heap.size w wr) (fun i _ => n - (intOf i).toNat)
  case atStart => exact ⟨0, Nat.zero_le _, rfl, hrow.congr (fun i hi => by rw [if_neg (by omega)]), hbl⟩
  case round =>
    obtain ⟨k, hk, rfl, hr, hb⟩ := hrel
    clear hrow hbl
    by_cases hlt : k < n
    · have hc := hr.cell (i := n - 1 - k) (by omega)
      have hf := hr.frozen (n - 1 - k)
      go_wp2
      go_roundw
      case rel => exact ⟨k + 1, by omega, by go_num, be_step hr hlt _ (byte_at x k), hb.setCell (Nat.le_refl _) _⟩
      case measure => simp [intOf]; omega
    · obtain rfl : k = n := by omega
      have hconv := be_done hr k
      go_wp2
      go_simp
      go_wp2
      go_ret
      exact ⟨rfl, hb⟩

theorem bytes16 (x : Nat) (n : Nat) (w : World) (hx : x < 65536) (hn0 : 1 ≤ n) (hn : n ≤ 8) :
    Calls Try.prog 34 #[.int .u16 x, .int .i64 n] w fun e w' => e = .returned (.string (beS x n)) ∧ Below w.heap.size w w' := by
  have hmk := run_make_row' (P := Try.prog) 37 5 (.int .u8 0) 1 Try.underlying37 Try.info5 rfl .i64 .i64 n (by omega) (by omega)
  go_enter Try.func34, Try.ntmps34
  go_wp2
  have hrow := World.rowIs_made w (.int .u8 0) n 5
  have hbl := (Below.refl w.heap.size w).alloc (Nat.le_refl _) (.cells (madeCells #[.int .u8 0] n) 5)
  clear hmk
  obtain ⟨w1, hw1⟩ : ∃ w1, w1 = w.alloc (.cells (madeCells #[.int .u8 0] n) 5) := ⟨_, rfl⟩
  rw [← hw1] at hrow hbl ⊢
  clear hw1
  go_loopw [11] (fun i wr => ∃ k : Nat, k ≤ n ∧ i = .int .i64 k ∧ wr.rowIs w.heap.size 5 n (fun j => .int .u8 (if n ≤ j + k then ((x / 256 ^ (n - 1 - j) % 256 : Nat) : Int) else 0)) ∧ Below w.heap.size w wr) (fun i _ => n - (intOf i).toNat)
  case atStart => exact ⟨0, Nat.zero_le _, rfl, hrow.congr (fun i hi => by rw [if_neg (by omega)]), hbl⟩
  case round =>
    obtain ⟨k, hk, rfl, hr, hb⟩ := hrel
    clear hrow hbl
    by_cases hlt : k < n
    · have hc := hr.cell (i := n - 1 - k) (by omega)
      have hf := hr.frozen (n - 1 - k)
      go_wp2
      go_roundw
      case rel => exact ⟨k + 1, by omega, by go_num, be_step hr hlt _ (byte_at x k), hb.setCell (Nat.le_refl _) _⟩
      case measure => simp [intOf]; omega
    · obtain rfl : k = n := by omega
      have hconv := be_done hr k
      go_wp2
      go_simp
      go_wp2
      go_ret
      exact ⟨rfl, hb⟩

theorem div_div (x k : Nat) : x / 256 ^ k / 256 = x / 256 ^ (k + 1) := by rw [Nat.div_div_eq_div_mul, Nat.pow_succ]

theorem num_any (x : Nat) (n : Nat) (w : World) (hx : x < 18446744073709551616) (hn0 : 1 ≤ n) (hn : n ≤ 8) :
    Calls Try.prog 23 #[.int .u64 x, .int .i64 n] w fun e w' => e = .returned (.string (beS x n)) ∧ Below w.heap.size w w' := by
  have hmk := run_make_row' (P := Try.prog) 37 5 (.int .u8 0) 1 Try.underlying37 Try.info5 rfl .i64 .i64 n (by omega) (by omega)
  go_enter Try.func23, Try.ntmps23
  go_wp2
  have hrow := World.rowIs_made w (.int .u8 0) n 5
  have hbl := (Below.refl w.heap.size w).alloc (Nat.le_refl _) (.cells (madeCells #[.int .u8 0] n) 5)
  clear hmk
  obtain ⟨w1, hw1⟩ : ∃ w1, w1 = w.alloc (.cells (madeCells #[.int .u8 0] n) 5) := ⟨_, rfl⟩
  rw [← hw1] at hrow hbl ⊢
  clear hw1
  go_loopw [0, 6] (fun y i wr => ∃ k : Nat, k ≤ n ∧ i = .int .i64 ((n : Int) - 1 - k) ∧ y = .int .u64 ((x / 256 ^ k : Nat) : Int) ∧ wr.rowIs w.heap.size 5 n (fun j => .int .u8 (if n ≤ j + k then ((x / 256 ^ (n - 1 - j) % 256 : Nat) : Int) else 0)) ∧ Below w.heap.size w wr) (fun _ i _ => (intOf i + 1).toNat)
  case atStart => exact ⟨0, Nat.zero_le _, by go_num, by simp, hrow.congr (fun i hi => by rw [if_neg (by omega)]), hbl⟩
  case round =>
    obtain ⟨k, hk, rfl, rfl, hr, hb⟩ := hrel
    clear hrow hbl
    have hxk : x / 256 ^ k ≤ x := Nat.div_le_self _ _
    by_cases hlt : k < n
    · have ei : (n : Int) - 1 - k = ((n - 1 - k : Nat) : Int) := by omega
      rw [ei]
      have hc := hr.cell (i := n - 1 - k) (by omega)
      have hf := hr.frozen (n - 1 - k)
      have hd := Lib.hid (div_div x k)
      have HE := Lib.hid ei
      clear ei
      go_wp2
      go_roundw
      case rel => exact ⟨k + 1, by omega, by go_num, by rw [← hd.out]; go_num, be_step hr hlt _ (by simp), hb.setCell (Nat.le_refl _) _⟩
      case measure => simp [intOf] <;> omega
    · obtain rfl : k = n := by omega
      have hconv := be_done hr k
      have ei : (k : Int) - 1 - k = -1 := by omega
      rw [ei]
      clear ei
      go_wp2
      go_simp
      go_wp2
      go_ret
      exact ⟨rfl, hb⟩

end Go.Proofs.Ytgonakpoflacoaa
