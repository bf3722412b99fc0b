/-
  CodeReads: what is read of any bytes, by any calls, and the first fault: for every text and every script.
-/
import Derived.Test.YtojfjjlmlefoiaaWorks
import Derived.Lib.Hide
import Derived.BigQuiet
import Derived.Deep.QuietTactic
import Derived.Deep.RegionHeld3
import Derived.Deep.SlicePairs
set_option linter.unusedVariables false
namespace Go.Proofs.Ytojfjjlmlefoiaa
open Go.ChangeShapes Go.WideShapes Go.ChangeAt Go.RowKit
open Go.ChangeMaps (open_string shut_string)

theorem Rd.only {w w' : World} {b c : Nat} {T : TypeId} {s : ByteArray} {f : Int} (h : Rd w b T s f) (ho : Only c w w') (hne : b ≠ c) : Rd w' b T s f := by
  have hl := h.lt; unfold Rd at *; rw [ho.block b hl hne]; exact h
theorem Rd.alloc {w : World} {b : Nat} {T : TypeId} {s : ByteArray} {f : Int} (h : Rd w b T s f) (o : Obj) : Rd (w.alloc o) b T s f := by
  have hl := h.lt; unfold Rd at *; rw [Below.heap_alloc _ _ _ hl]; exact h
theorem Rd.setCell {w : World} {b : Nat} {T : TypeId} {s : ByteArray} {f : Int} (h : Rd w b T s f) (a : Addr) (hne : b ≠ a.block) (v : Value) : Rd (w.setCell a v) b T s f := by
  unfold Rd at *; rw [Below.heap_setCell _ _ _ _ hne]; exact h

theorem swap {P : Program} {f : FuncId} {args : Array Value} {w : World} {v : Value} (h : Calls P f args w fun e w' => e = .returned v ∧ w = w') : Calls P f args w fun e w' => e = .returned v ∧ w' = w :=
  h.mono fun _ _ ⟨a, b⟩ => ⟨a, b.symm⟩
theorem belowN {B : Nat} {w w' : World} (h : Below B w w') (n : Nat) : Below B w (w'.drewN n) := ⟨h.os, h.tape, h.output, h.size, h.block⟩
theorem txtS_le (s : ByteArray) (f : Int) : (txtS s f).size ≤ s.size := by
  unfold txtS
  split
  · exact Nat.le_trans (leftS_le _ _ _) (leftS_le _ _ _)
  · exact Nat.le_refl _
theorem Rd.drew {w : World} {b : Nat} {T : TypeId} {s : ByteArray} {f : Int} (h : Rd w b T s f) : Rd w.drew b T s f := h
theorem kept_cell {w w' : World} {b c o : Nat} {v : Value} (h : Only b w w') (hc : w.cell? ⟨c, o, none⟩ = some v) (hne : c ≠ b) : w'.cell? ⟨c, o, none⟩ = some v :=
  (World.cell?_of_block (a := ⟨c, o, none⟩) (h.block c (World.block_lt_of_cell? _ _ hc) hne)).trans hc
theorem rnum1 (b : Nat) (s : ByteArray) (f : Int) (w : World) (h : Rd w b 49 s f) :
    Calls Try.prog 24 #[.pointer (some ⟨b, 0, none⟩), .int .i64 1] w fun e w' => e = .returned (.int .u64 (numOf (outS s f 1).data.toList)) ∧ Left b 49 w w' (leftS s f 1) (leftF s f 1) := rnum_any b s f 1 w h (by decide)
theorem rnum2 (b : Nat) (s : ByteArray) (f : Int) (w : World) (h : Rd w b 49 s f) :
    Calls Try.prog 24 #[.pointer (some ⟨b, 0, none⟩), .int .i64 2] w fun e w' => e = .returned (.int .u64 (numOf (outS s f 2).data.toList)) ∧ Left b 49 w w' (leftS s f 2) (leftF s f 2) := rnum_any b s f 2 w h (by decide)
theorem rnum4 (b : Nat) (s : ByteArray) (f : Int) (w : World) (h : Rd w b 49 s f) :
    Calls Try.prog 24 #[.pointer (some ⟨b, 0, none⟩), .int .i64 4] w fun e w' => e = .returned (.int .u64 (numOf (outS s f 4).data.toList)) ∧ Left b 49 w w' (leftS s f 4) (leftF s f 4) := rnum_any b s f 4 w h (by decide)
theorem rnum8 (b : Nat) (s : ByteArray) (f : Int) (w : World) (h : Rd w b 49 s f) :
    Calls Try.prog 24 #[.pointer (some ⟨b, 0, none⟩), .int .i64 8] w fun e w' => e = .returned (.int .u64 (numOf (outS s f 8).data.toList)) ∧ Left b 49 w w' (leftS s f 8) (leftF s f 8) := rnum_any b s f 8 w h (by decide)
theorem num_lt (s : ByteArray) (f : Int) (n : Nat) : numOf (outS s f n).data.toList < 256 ^ n :=
  Nat.lt_of_lt_of_le (numOf_lt _) (Nat.pow_le_pow_right (by decide) (outS_size s f n))
theorem num_lt1 (s : ByteArray) (f : Int) : numOf (outS s f 1).data.toList < 256 := num_lt s f 1
theorem num_lt2 (s : ByteArray) (f : Int) : numOf (outS s f 2).data.toList < 65536 := num_lt s f 2
theorem num_lt4 (s : ByteArray) (f : Int) : numOf (outS s f 4).data.toList < 4294967296 := num_lt s f 4
theorem num_lt8 (s : ByteArray) (f : Int) : numOf (outS s f 8).data.toList < 18446744073709551616 := num_lt s f 8

set_option maxRecDepth 100000 in
theorem reads_walk (s0 : ByteArray) (b off len cap : Nat) (w : World) (hs : s0.size ≤ 131072) (hlen : 1 ≤ len) (hlen2 : len ≤ 200) (hbw : b < w.heap.size)
    (hsc : ∀ k, k < len → ∃ d n : Int, w.cell? ⟨b, off + k * 2, none⟩ = some (.int .i64 d) ∧ w.cell? ⟨b, off + k * 2 + 1, none⟩ = some (.int .i64 n)) :
    Calls Try.prog 5 #[.string s0, .slice (some ⟨b, off, none⟩) len cap] w fun e w' => e = .returned (.bool true) ∧ Below w.heap.size w w' := by
  have HSC := Lib.hid hsc
  clear hsc
  go_enter Try.func5, Try.ntmps5
  go_wp2_with fail
  refine (new_any s0 _).mono ?_
  rintro e w1 ⟨rfl, r1, b1⟩
  simp only []
  go_wp2_with fail
  have q2 : Rd (w1.alloc (.cells #[.string s0, .int .i64 0] 49)) w1.heap.size 49 s0 0 := heap_alloc_new w1 _
  have r2 := r1.alloc (.cells #[.string s0, .int .i64 0] 49)
  have b2 := b1.alloc b1.size (.cells #[.string s0, .int .i64 0] 49)
  have hbq : w.heap.size < w1.heap.size := r1.lt
  clear r1 b1
  obtain ⟨B, hB⟩ : ∃ B, B = w1.heap.size := ⟨_, rfl⟩
  rw [← hB] at q2 hbq ⊢
  clear hB
  obtain ⟨w2, hw2⟩ : ∃ w2, w2 = w1.alloc (.cells #[.string s0, .int .i64 0] 49) := ⟨_, rfl⟩
  rw [← hw2] at q2 r2 b2 ⊢
  clear hw2
  go_loopw [7] (fun i wr => ∃ k : Nat, k ≤ len ∧ i = .int .i64 k ∧ ∃ (s : ByteArray) (f : Int), s.size ≤ 131072 ∧ Rd wr w.heap.size 61 s f ∧ Rd wr B 49 s f ∧ Below w.heap.size w wr) (fun i _ => len - (intOf i).toNat)
  case atStart => exact ⟨0, Nat.zero_le _, rfl, s0, 0, hs, r2, q2, b2⟩
  case round =>
    obtain ⟨k, hk, rfl, s, f, hsz, hr, hq, hbl⟩ := hrel
    clear q2 r2 b2
    by_cases hlt : k < len
    · obtain ⟨d, n, hd, hn⟩ := HSC.out k hlt
      have hd := (hbl.cell (p := ⟨b, off + k * 2, none⟩) hbw).trans hd
      have hn := (hbl.cell (p := ⟨b, off + k * 2 + 1, none⟩) hbw).trans hn
      go_wp2_with fail
      · have hN := num_lt1 s f
        refine (u8_any _ s f _ (hr.alloc _) (by unfold maxLen; omega)).mono ?_
        rintro e w5 ⟨rfl, h5⟩
        simp only []
        go_wp2_with fail
        refine (rnum1 B s f _ ((hq.alloc _).only h5.only (by omega))).mono ?_
        rintro e w6 ⟨rfl, h6⟩
        simp only []
        have r6 := h5.rd.only h6.only (by omega)
        have q6 := h6.rd
        have l6 : Below w.heap.size w w6 := ((hbl.alloc (by have := hbl.size; omega) _).with h5.only (Nat.le_refl _)).with h6.only (by omega)
        have z6 := q6.cell0
        have y6 := q6.cell1
        have s6 : (leftS s f 1).size ≤ 131072 := Nat.le_trans (leftS_le s f 1) hsz
        clear h5 h6 hr hq hbl
        obtain ⟨S, hS⟩ : ∃ S, S = (leftS s f 1) := ⟨_, rfl⟩
        obtain ⟨F, hF⟩ : ∃ F, F = leftF s f 1 := ⟨_, rfl⟩
        rw [← hS] at r6 q6 z6 s6
        rw [← hF] at r6 q6 y6
        clear hS hF
        go_wp2_with fail
        go_quiet (first | (go_at_call 19; exact Calls.quiet_of_same (swap (left_any _ S F _ (by exact r6)))) | (go_at_call 20; exact Calls.quiet_of_same (swap (fault_any _ S F _ (by exact r6)))) | (go_at_call 21; exact Calls.quiet_of_same (swap (end_any _ S F _ (by exact r6)))) | (go_at_call 27; exact Calls.quiet_of_same (swap (rend_any _ S F _ (by exact q6)))))
        go_wp2_with fail
        go_roundw
        case rel => exact ⟨k + 1, by omega, by go_num, S, F, s6, r6, q6, belowN l6 nq⟩
        case measure => simp [intOf]; omega
      · have hN := num_lt2 s f
        refine (u16_any _ s f _ (hr.alloc _) (by unfold maxLen; omega)).mono ?_
        rintro e w5 ⟨rfl, h5⟩
        simp only []
        go_wp2_with fail
        refine (rnum2 B s f _ ((hq.alloc _).only h5.only (by omega))).mono ?_
        rintro e w6 ⟨rfl, h6⟩
        simp only []
        have r6 := h5.rd.only h6.only (by omega)
        have q6 := h6.rd
        have l6 : Below w.heap.size w w6 := ((hbl.alloc (by have := hbl.size; omega) _).with h5.only (Nat.le_refl _)).with h6.only (by omega)
        have z6 := q6.cell0
        have y6 := q6.cell1
        have s6 : (leftS s f 2).size ≤ 131072 := Nat.le_trans (leftS_le s f 2) hsz
        clear h5 h6 hr hq hbl
        obtain ⟨S, hS⟩ : ∃ S, S = (leftS s f 2) := ⟨_, rfl⟩
        obtain ⟨F, hF⟩ : ∃ F, F = leftF s f 2 := ⟨_, rfl⟩
        rw [← hS] at r6 q6 z6 s6
        rw [← hF] at r6 q6 y6
        clear hS hF
        go_wp2_with fail
        go_quiet (first | (go_at_call 19; exact Calls.quiet_of_same (swap (left_any _ S F _ (by exact r6)))) | (go_at_call 20; exact Calls.quiet_of_same (swap (fault_any _ S F _ (by exact r6)))) | (go_at_call 21; exact Calls.quiet_of_same (swap (end_any _ S F _ (by exact r6)))) | (go_at_call 27; exact Calls.quiet_of_same (swap (rend_any _ S F _ (by exact q6)))))
        go_wp2_with fail
        go_roundw
        case rel => exact ⟨k + 1, by omega, by go_num, S, F, s6, r6, q6, belowN l6 nq⟩
        case measure => simp [intOf]; omega
      · have hN := num_lt4 s f
        refine (u32_any _ s f _ (hr.alloc _) (by unfold maxLen; omega)).mono ?_
        rintro e w5 ⟨rfl, h5⟩
        simp only []
        go_wp2_with fail
        refine (rnum4 B s f _ ((hq.alloc _).only h5.only (by omega))).mono ?_
        rintro e w6 ⟨rfl, h6⟩
        simp only []
        have r6 := h5.rd.only h6.only (by omega)
        have q6 := h6.rd
        have l6 : Below w.heap.size w w6 := ((hbl.alloc (by have := hbl.size; omega) _).with h5.only (Nat.le_refl _)).with h6.only (by omega)
        have z6 := q6.cell0
        have y6 := q6.cell1
        have s6 : (leftS s f 4).size ≤ 131072 := Nat.le_trans (leftS_le s f 4) hsz
        clear h5 h6 hr hq hbl
        obtain ⟨S, hS⟩ : ∃ S, S = (leftS s f 4) := ⟨_, rfl⟩
        obtain ⟨F, hF⟩ : ∃ F, F = leftF s f 4 := ⟨_, rfl⟩
        rw [← hS] at r6 q6 z6 s6
        rw [← hF] at r6 q6 y6
        clear hS hF
        go_wp2_with fail
        go_quiet (first | (go_at_call 19; exact Calls.quiet_of_same (swap (left_any _ S F _ (by exact r6)))) | (go_at_call 20; exact Calls.quiet_of_same (swap (fault_any _ S F _ (by exact r6)))) | (go_at_call 21; exact Calls.quiet_of_same (swap (end_any _ S F _ (by exact r6)))) | (go_at_call 27; exact Calls.quiet_of_same (swap (rend_any _ S F _ (by exact q6)))))
        go_wp2_with fail
        go_roundw
        case rel => exact ⟨k + 1, by omega, by go_num, S, F, s6, r6, q6, belowN l6 nq⟩
        case measure => simp [intOf]; omega
      · have hN := num_lt8 s f
        refine (u64_any _ s f _ (hr.alloc _) (by unfold maxLen; omega)).mono ?_
        rintro e w5 ⟨rfl, h5⟩
        simp only []
        go_wp2_with fail
        refine (rnum8 B s f _ ((hq.alloc _).only h5.only (by omega))).mono ?_
        rintro e w6 ⟨rfl, h6⟩
        simp only []
        have r6 := h5.rd.only h6.only (by omega)
        have q6 := h6.rd
        have l6 : Below w.heap.size w w6 := ((hbl.alloc (by have := hbl.size; omega) _).with h5.only (Nat.le_refl _)).with h6.only (by omega)
        have z6 := q6.cell0
        have y6 := q6.cell1
        have s6 : (leftS s f 8).size ≤ 131072 := Nat.le_trans (leftS_le s f 8) hsz
        clear h5 h6 hr hq hbl
        obtain ⟨S, hS⟩ : ∃ S, S = (leftS s f 8) := ⟨_, rfl⟩
        obtain ⟨F, hF⟩ : ∃ F, F = leftF s f 8 := ⟨_, rfl⟩
        rw [← hS] at r6 q6 z6 s6
        rw [← hF] at r6 q6 y6
        clear hS hF
        go_wp2_with fail
        go_quiet (first | (go_at_call 19; exact Calls.quiet_of_same (swap (left_any _ S F _ (by exact r6)))) | (go_at_call 20; exact Calls.quiet_of_same (swap (fault_any _ S F _ (by exact r6)))) | (go_at_call 21; exact Calls.quiet_of_same (swap (end_any _ S F _ (by exact r6)))) | (go_at_call 27; exact Calls.quiet_of_same (swap (rend_any _ S F _ (by exact q6)))))
        go_wp2_with fail
        go_roundw
        case rel => exact ⟨k + 1, by omega, by go_num, S, F, s6, r6, q6, belowN l6 nq⟩
        case measure => simp [intOf]; omega
      · have n1 : wr.heap.size ≠ w.heap.size := Nat.ne_of_gt hr.lt
        have n2 : wr.heap.size ≠ B := Nat.ne_of_gt hq.lt
        have n3 : B ≠ w.heap.size := Nat.ne_of_gt hbq
        go_region_held3 (fun w' => w'.cell? ⟨wr.heap.size, 1, none⟩ = some (.int .i64 n)) (first | assumption | (simp; done)) (first | (go_at_call 22; refine (take_meth _ s f n _ (hr.alloc _).drew (Nat.le_trans hsz (by decide))).mono ?_; rintro e w5 ⟨rfl, h5⟩; have c5 := kept_cell (c := wr.heap.size) (o := 1) (v := .int .i64 n) h5.only (by simp) n1) | (go_at_call 25; refine (rtake_any B s f n _ ((hq.alloc _).drew.only h5.only n3)).mono ?_; rintro e w6 ⟨rfl, h6⟩; have c6 := kept_cell h6.only c5 n2))
        have r6 := h5.rd.only h6.only (by omega)
        have q6 := h6.rd
        have l6 : Below w.heap.size w w6 := ((hbl.alloc (by have := hbl.size; omega) _).drew.with h5.only (Nat.le_refl _)).with h6.only (by omega)
        have z6 := q6.cell0
        have y6 := q6.cell1
        have s6 : (leftS s f n).size ≤ 131072 := Nat.le_trans (leftS_le s f n) hsz
        clear h5 h6 hr hq hbl c5 c6
        obtain ⟨S, hS⟩ : ∃ S, S = (leftS s f n) := ⟨_, rfl⟩
        obtain ⟨F, hF⟩ : ∃ F, F = leftF s f n := ⟨_, rfl⟩
        rw [← hS] at r6 q6 z6 s6
        rw [← hF] at r6 q6 y6
        clear hS hF
        go_wp2_with fail
        go_quiet (first | (go_at_call 19; exact Calls.quiet_of_same (swap (left_any _ S F _ (by exact r6)))) | (go_at_call 20; exact Calls.quiet_of_same (swap (fault_any _ S F _ (by exact r6)))) | (go_at_call 21; exact Calls.quiet_of_same (swap (end_any _ S F _ (by exact r6)))) | (go_at_call 27; exact Calls.quiet_of_same (swap (rend_any _ S F _ (by exact q6)))))
        go_wp2_with fail
        go_roundw
        case rel => exact ⟨k + 1, by omega, by go_num, S, F, s6, r6, q6, belowN l6 nq⟩
        case measure => simp [intOf]; omega
      · refine (txt_any _ s f _ (hr.alloc _) (by unfold maxLen; omega)).mono ?_
        rintro e w5 ⟨rfl, h5⟩
        simp only []
        go_wp2_with fail
        refine (rtxt_any B s f _ ((hq.alloc _).only h5.only (by omega)) (by unfold maxLen; omega)).mono ?_
        rintro e w6 ⟨rfl, h6⟩
        simp only []
        have r6 := h5.rd.only h6.only (by omega)
        have q6 := h6.rd
        have l6 : Below w.heap.size w w6 := ((hbl.alloc (by have := hbl.size; omega) _).with h5.only (Nat.le_refl _)).with h6.only (by omega)
        have z6 := q6.cell0
        have y6 := q6.cell1
        have s6 : (txtS s f).size ≤ 131072 := Nat.le_trans (txtS_le s f) hsz
        clear h5 h6 hr hq hbl
        obtain ⟨S, hS⟩ : ∃ S, S = (txtS s f) := ⟨_, rfl⟩
        obtain ⟨F, hF⟩ : ∃ F, F = txtF s f := ⟨_, rfl⟩
        rw [← hS] at r6 q6 z6 s6
        rw [← hF] at r6 q6 y6
        clear hS hF
        go_wp2_with fail
        go_quiet (first | (go_at_call 19; exact Calls.quiet_of_same (swap (left_any _ S F _ (by exact r6)))) | (go_at_call 20; exact Calls.quiet_of_same (swap (fault_any _ S F _ (by exact r6)))) | (go_at_call 21; exact Calls.quiet_of_same (swap (end_any _ S F _ (by exact r6)))) | (go_at_call 27; exact Calls.quiet_of_same (swap (rend_any _ S F _ (by exact q6)))))
        go_wp2_with fail
        go_roundw
        case rel => exact ⟨k + 1, by omega, by go_num, S, F, s6, r6, q6, belowN l6 nq⟩
        case measure => simp [intOf]; omega
    · go_wp2_with fail
      refine (works_any _).mono ?_
      rintro e w5 ⟨rfl, b5⟩
      simp only []
      go_wp2_with fail
      go_ret
      exact ⟨rfl, hbl.more b5⟩
theorem reads_empty (s0 : ByteArray) (ao : Option Addr) (cap : Nat) (w : World) (hs : s0.size ≤ 131072) :
    Calls Try.prog 5 #[.string s0, .slice ao 0 cap] w fun e w' => e = .returned (.bool true) ∧ Below w.heap.size w w' := by
  go_enter Try.func5, Try.ntmps5
  go_wp2_with fail
  refine (new_any s0 _).mono ?_
  rintro e w1 ⟨rfl, r1, b1⟩
  simp only []
  go_wp2_with fail
  refine wp_loop_rounds 1 ?_
  rw [rounds_succ]
  go_wp2_with fail
  refine (works_any _).mono ?_
  rintro e w5 ⟨rfl, b5⟩
  simp only []
  go_wp2_with fail
  go_ret
  exact ⟨rfl, (b1.alloc b1.size _).more b5⟩
theorem reads_long (s0 : ByteArray) (v : Value) (w : World) (hs : 131072 < s0.size) (hm : s0.size ≤ maxLen) :
    Calls Try.prog 5 #[.string s0, v] w fun e w' => e = .returned (.bool true) ∧ Below w.heap.size w w' := by
  unfold maxLen at hm
  go_enter Try.func5, Try.ntmps5
  go_wp2_with (go_at_call 7; refine (works_any _).mono ?_; rintro e w1 ⟨rfl, b1⟩)
  go_ret
  exact ⟨rfl, b1⟩
theorem reads_many (s0 : ByteArray) (ao : Option Addr) (len cap : Nat) (w : World) (hs : s0.size ≤ 131072) (hl : 200 < len) (hm : len ≤ maxLen) :
    Calls Try.prog 5 #[.string s0, .slice ao len cap] w fun e w' => e = .returned (.bool true) ∧ Below w.heap.size w w' := by
  unfold maxLen at hm
  go_enter Try.func5, Try.ntmps5
  go_wp2_with (go_at_call 7; refine (works_any _).mono ?_; rintro e w1 ⟨rfl, b1⟩)
  go_ret
  exact ⟨rfl, b1⟩


end Go.Proofs.Ytojfjjlmlefoiaa
