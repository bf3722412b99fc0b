/-
  The sum of bytes: the code's and the document's.
-/
import Derived.Test.YtgonakpoflacoaaAddr
import Derived.Laws.BitsAllLaws
set_option linter.unusedVariables false
set_option linter.unusedSimpArgs false
namespace Go.Proofs.Ytgonakpoflacoaa
open Go.RowKit

def bt (p : ByteArray) (i : Nat) : Nat := (p.data.getD i 0).toNat
theorem bt_lt (p : ByteArray) (i : Nat) : bt p i < 256 := UInt8.toNat_lt _
theorem bt_get (p : ByteArray) (k : Nat) (h : k < p.size) : (p[k]'h).toNat = bt p k := by
  unfold bt
  rw [Array.getD_eq_getD_getElem?]
  have hd : k < p.data.size := h
  rw [Array.getElem?_eq_getElem hd]
  rfl
def wgt (k : Nat) : Nat := if k % 2 = 0 then 256 else 1
def accS (s : ByteArray) : Nat → Nat
  | 0 => 0
  | k + 1 => accS s k + bt s k * wgt k
def foldF (n : Nat) : Nat := if n = 0 then 0 else (n - 1) % 65535 + 1
def sumV (s : ByteArray) : Nat := 65535 - foldF (accS s s.size)
theorem accS_le (s : ByteArray) : ∀ k, accS s k ≤ k * 65280
  | 0 => Nat.le_refl _
  | k + 1 => by
    have h1 := accS_le s k
    have h2 := bt_lt s k
    have h3 : bt s k * wgt k ≤ 65280 := by
      unfold wgt
      split <;> omega
    show accS s k + bt s k * wgt k ≤ _
    omega
theorem foldF_small {m : Nat} (h : m ≤ 65535) : foldF m = m := by
  unfold foldF
  split
  · omega
  · omega
theorem foldF_step {m : Nat} (h : 65536 ≤ m) : foldF (m % 65536 + m / 65536) = foldF m ∧ m % 65536 + m / 65536 < m := by
  have h1 := Nat.div_add_mod m 65536
  have h2 : 1 ≤ m / 65536 := by omega
  refine ⟨?_, by omega⟩
  obtain ⟨q, hq⟩ : ∃ q, q = m / 65536 := ⟨_, rfl⟩
  obtain ⟨r, hr⟩ : ∃ r, r = m % 65536 := ⟨_, rfl⟩
  rw [← hq, ← hr] at h1
  rw [← hq] at h2
  rw [← hq, ← hr]
  unfold foldF
  rw [if_neg (by omega), if_neg (by omega)]
  have e : m - 1 = (r + q - 1) + 65535 * q := by omega
  rw [e, Nat.add_mul_mod_self_left]
theorem foldF_le (m : Nat) : foldF m ≤ 65535 := by
  unfold foldF
  split
  · omega
  · have := Nat.mod_lt (m - 1) (show 0 < 65535 by decide)
    omega

theorem i64_and1 (n : Int) : bits .and .i64 n 1 = n % 2 := by
  have h127 : (BitVec.ofInt 64 1).toNat = 2 ^ 1 - 1 := by decide
  have key : (BitVec.ofInt 64 n &&& BitVec.ofInt 64 1).toNat = (n % ((2 ^ 64 : Nat) : Int)).toNat % 2 ^ 1 := by
    rw [BitVec.toNat_and, BitVec.toNat_ofInt, h127, Nat.and_two_pow_sub_one_eq_mod]
  show IntKind.i64.wrap ((BitVec.ofInt 64 n &&& BitVec.ofInt 64 1).toNat : Nat) = n % 2
  rw [key, IntKind.wrap_i64]
  omega
theorem u32_lowN (m : Nat) (h : m < 4294967296) : bits .and .u32 (m : Int) 65535 = ((m % 65536 : Nat) : Int) := by
  have := u32_and_nat m 65535 h (by decide)
  rw [show ((65535 : Nat) : Int) = 65535 by rfl] at this
  rw [this]
  congr 1
  exact Nat.and_two_pow_sub_one_eq_mod m 16
theorem u16_not (m : Nat) (h : m ≤ 65535) : bits .xor .u16 IntKind.u16.max (m : Int) = ((65535 - m : Nat) : Int) := by
  have e : BitVec.ofInt 16 65535 = BitVec.allOnes 16 := by decide
  have key : (BitVec.ofInt 16 65535 ^^^ BitVec.ofInt 16 (m : Int)).toNat = 65535 - m := by
    rw [e, BitVec.allOnes_xor, BitVec.toNat_not, BitVec.toNat_ofInt]
    omega
  show IntKind.u16.wrap ((BitVec.ofInt 16 65535 ^^^ BitVec.ofInt 16 (m : Int)).toNat : Nat) = _
  rw [key, IntKind.wrap_u16]
  omega
theorem accE {s : ByteArray} {k : Nat} (h : k % 2 = 0) : accS s (k + 1) = accS s k + bt s k * 256 := by show _ + _ * wgt k = _; unfold wgt; rw [if_pos h]
theorem accO {s : ByteArray} {k : Nat} (h : ¬ k % 2 = 0) : accS s (k + 1) = accS s k + bt s k := by show _ + _ * wgt k = _; unfold wgt; rw [if_neg h, Nat.mul_one]
theorem and1E {k : Nat} (h : k % 2 = 0) : bits .and .i64 (k : Int) 1 = 0 := by rw [i64_and1]; omega
theorem and1O {k : Nat} (h : ¬ k % 2 = 0) : bits .and .i64 (k : Int) 1 = 1 := by rw [i64_and1]; omega
theorem accI {a : Nat} {s : ByteArray} {k : Nat} (ha : a = accS s k) (hk : k ≤ 20000) : (a : Int) ≤ 1305600000 := by have := accS_le s k; omega
theorem sumN {a b c : Nat} (h : c = a + b) : Value.int .u32 ((a : Int) + b) = .int .u32 (c : Int) := by subst h; simp
/-- The bytes lie in the new block. -/
def CellsW (s : ByteArray) (w w2 : World) : Prop := (∀ (k : Nat) (hk : k < s.size), w2.cell? ⟨w.heap.size, k, none⟩ = some (.int .u8 (s[k].toNat : Int))) ∧ Below w.heap.size w w2
set_option maxHeartbeats 8000000 in
set_option maxRecDepth 100000 in
theorem ipSum_any (s : ByteArray) (w : World) (hs : s.size ≤ 20000) : Calls Try.prog 48 #[.string s] w fun e w' => e = .returned (.int .u16 (sumV s)) ∧ Below w.heap.size w w' := by
  have hconv := run_bytes_of_string (P := Try.prog) w 9 37 5 s Try.underlying9 Try.underlying37 Try.underlying5
  have hb := ((Below.refl w.heap.size w).drew).alloc (Nat.le_refl _) (.cells (bytesRow s (grownCap w s.size 0 5)) 5 ((bytesRow s (grownCap w s.size 0 5)).size, (bytesRow s (grownCap w s.size 0 5)).size + 1))
  obtain ⟨cap, hcap⟩ : ∃ cap, cap = grownCap w s.size 0 5 := ⟨_, rfl⟩
  rw [← hcap] at hconv hb
  clear hcap
  have hcell := bytesRow_cell w.drew s cap 5 ((bytesRow s cap).size, (bytesRow s cap).size + 1)
  obtain ⟨w2, hw2⟩ : ∃ w2, w2 = w.drew.alloc (.cells (bytesRow s cap) 5 ((bytesRow s cap).size, (bytesRow s cap).size + 1)) := ⟨_, rfl⟩
  rw [← hw2] at hconv hb hcell
  simp only [World.size_drew] at hcell
  clear hw2
  have HC := Lib.hid (And.intro hcell (And.intro hb hs))
  have hz : (s.size : Int) ≤ 20000 := by omega
  clear hcell hb hs
  go_enter Try.func48, Try.ntmps48
  go_wp2_with fail
  go_loopw [3, 9] (fun n i wr => ∃ k a : Nat, k ≤ s.size ∧ i = .int .i64 k ∧ n = .int .u32 a ∧ a = accS s k ∧ CellsW s w wr) (fun _ i _ => s.size - (intOf i).toNat)
  case atStart => exact ⟨0, 0, Nat.zero_le _, rfl, rfl, rfl, HC.out.1, HC.out.2.1⟩
  case round =>
    obtain ⟨k, a, hk, rfl, rfl, ha, hcw⟩ := hrel
    obtain ⟨w3, rfl⟩ : ∃ uu : World, uu = wr := ⟨_, rfl⟩
    have HW := Lib.hid hcw
    clear hcw
    by_cases hlt : k < s.size
    · have hc := HW.out.1 k hlt
      have l1 : (k : Int) < s.size := Int.ofNat_lt.2 hlt
      have la := accI ha (Nat.le_trans hk HC.out.2.2)
      have hbc := bt_get s k hlt
      obtain ⟨c, hcc⟩ : ∃ c, c = (s[k]'hlt).toNat := ⟨_, rfl⟩
      rw [← hcc] at hc hbc
      have lc : c < 256 := by rw [hbc]; exact bt_lt s k
      have lc : (c : Int) < 256 := by omega
      have HA := Lib.hid (And.intro ha (And.intro hbc (And.intro hlt hk)))
      clear hcc hbc ha hlt hk
      by_cases hp : k % 2 = 0
      · have e1 := and1E hp
        have e2 := Lib.hid (accE (s := s) hp)
        clear hp
        go_wp2_with fail
        go_roundw
        case rel => exact ⟨k + 1, accS s (k + 1), HA.out.2.2.1, by go_num, val_int (by have := e2.out; have := HA.out.1; have := HA.out.2.1; omega), rfl, HW.out⟩
        case measure => have := HA.out.2.2.1; simp [intOf]; omega
      · have e1 := and1O hp
        have e2 := Lib.hid (accO (s := s) hp)
        clear hp
        go_wp2_with fail
        go_roundw
        case rel => exact ⟨k + 1, accS s (k + 1), HA.out.2.2.1, by go_num, val_int (by have := e2.out; have := HA.out.1; have := HA.out.2.1; omega), rfl, HW.out⟩
        case measure => have := HA.out.2.2.1; simp [intOf]; omega
    · have hks : k = s.size := by omega
      have l1 : ¬ (k : Int) < s.size := by omega
      have la := accI ha (Nat.le_trans hk HC.out.2.2)
      obtain ⟨F, hF⟩ : ∃ F, F = foldF a := ⟨_, rfl⟩
      have HF := Lib.hid (show sumV s = 65535 - F by rw [hF, ha, hks]; rfl)
      have HL := Lib.hid (show a < 4294967296 by omega)
      have HFa := Lib.hid hF.symm
      clear hks hF ha hlt hk la hconv
      go_wp2_with fail
      go_loopw [3] (fun n wr => ∃ m : Nat, n = .int .u32 m ∧ m < 4294967296 ∧ foldF m = F ∧ Below w.heap.size w wr) (fun n _ => (intOf n).toNat)
      case atStart => exact ⟨a, rfl, HL.out, HFa.out, HW.out.2⟩
      case round =>
        obtain ⟨m, rfl, hm, hmF, hbw⟩ := hrel
        obtain ⟨w4, rfl⟩ : ∃ uu : World, uu = wr := ⟨_, rfl⟩
        have HB := Lib.hid hbw
        clear hbw
        by_cases h6 : 65536 ≤ m
        · obtain ⟨st1, st2⟩ := foldF_step h6
          obtain ⟨q, hq⟩ : ∃ q, q = m / 65536 := ⟨_, rfl⟩
          obtain ⟨r, hr⟩ : ∃ r, r = m % 65536 := ⟨_, rfl⟩
          have e1 := u32_lowN m hm
          rw [← hr] at e1
          rw [← hq, ← hr] at st1 st2
          have e2 : (m : Int) / 65536 = q := by omega
          have e3 : ¬ (q : Int) = 0 := by omega
          have e4 : ((q : Int) == 0) = false := beq_eq_false_iff_ne.2 e3
          have e5 : (r : Int) ≤ 65535 := by omega
          have e6 : (q : Int) ≤ 65535 := by omega
          have HS := Lib.hid (And.intro st1 (And.intro st2 (And.intro hmF (show r + q < 4294967296 by omega))))
          clear st1 st2 hq hr hm hmF h6
          go_wp2_with fail
          go_roundw
          case rel => exact ⟨r + q, by go_num, HS.out.2.2.2, HS.out.1.trans HS.out.2.2.1, HB.out⟩
          case measure => have := HS.out.2.1; simp [intOf]; omega
        · obtain ⟨q, e2⟩ : ∃ q : Int, (m : Int) / 65536 = q := ⟨_, rfl⟩
          have e3 : q ≤ 0 := by omega
          have e4 : 0 ≤ q := by omega
          have e5 : (m : Int) ≤ 65535 := by omega
          have hmm : m = F := by rw [← hmF]; exact (foldF_small (by omega)).symm
          have HM := Lib.hid hmm
          clear hmF hmm h6 hm
          go_wp2_with fail
          go_ret
          refine ⟨ret_int ?_, HB.out⟩
          rw [u16_not m (by omega), HF.out, HM.out]

theorem rem2E {k : Nat} (h : k % 2 = 0) : ∃ R : Int, (k : Int) % 2 = R ∧ R ≤ 0 ∧ 0 ≤ R := ⟨(k : Int) % 2, rfl, by omega, by omega⟩
theorem rem2O {k : Nat} (h : ¬ k % 2 = 0) : ∃ R : Int, (k : Int) % 2 = R ∧ 1 ≤ R ∧ R ≤ 1 := ⟨(k : Int) % 2, rfl, by omega, by omega⟩
set_option maxHeartbeats 8000000 in
set_option maxRecDepth 100000 in
theorem refIpSum_any (s : ByteArray) (w : World) (hs : s.size ≤ 20000) : Calls Try.prog 46 #[.string s] w fun e w' => e = .returned (.int .u16 (sumV s)) ∧ w' = w := by
  have HS := Lib.hid hs
  have hz : (s.size : Int) ≤ 20000 := by omega
  clear hs
  go_enter Try.func46, Try.ntmps46
  go_wp2_with fail
  go_loopw [3, 4] (fun n i wr => ∃ k a : Nat, k ≤ s.size ∧ i = .int .i64 k ∧ n = .int .i64 a ∧ a = accS s k ∧ w = wr) (fun _ i _ => s.size - (intOf i).toNat)
  case atStart => exact ⟨0, 0, Nat.zero_le _, rfl, rfl, rfl, rfl⟩
  case round =>
    obtain ⟨k, a, hk, rfl, rfl, ha, rfl⟩ := hrel
    by_cases hlt : k < s.size
    · have l1 : (k : Int) < s.size := Int.ofNat_lt.2 hlt
      have l0 : (0 : Int) ≤ k := by omega
      have la := accI ha (Nat.le_trans hk HS.out)
      have hbc := bt_get s k hlt
      obtain ⟨c, hcc⟩ : ∃ c, c = (s[k]'hlt).toNat := ⟨_, rfl⟩
      have lc : c < 256 := by rw [hcc]; exact UInt8.toNat_lt _
      have lc : (c : Int) < 256 := by omega
      have HA := Lib.hid (And.intro ha (And.intro hlt (And.intro hk (And.intro hbc hcc))))
      have lc2 : ((s[k]'hlt).toNat : Int) < 256 := by rw [← hcc]; exact lc
      clear hbc ha hk hcc
      by_cases hp : k % 2 = 0
      · have e2 := Lib.hid (accE (s := s) hp)
        obtain ⟨R, e3, e4, e5⟩ := rem2E hp
        clear hp
        go_wp2_with fail
        go_roundw
        case rel => exact ⟨k + 1, accS s (k + 1), HA.out.2.1, by go_num, val_int (by have := e2.out; have := HA.out.1; have := HA.out.2.2.2.1; omega), rfl, trivial⟩
        case measure => have := HA.out.2.1; simp [intOf]; omega
      · have e2 := Lib.hid (accO (s := s) hp)
        obtain ⟨R, e3, e4, e5⟩ := rem2O hp
        clear hp
        go_wp2_with fail
        go_roundw
        case rel => exact ⟨k + 1, accS s (k + 1), HA.out.2.1, by go_num, val_int (by have := e2.out; have := HA.out.1; have := HA.out.2.2.2.1; omega), rfl, trivial⟩
        case measure => have := HA.out.2.1; simp [intOf]; omega
    · have hks : k = s.size := by omega
      have l1 : ¬ (k : Int) < s.size := by omega
      have la := accI ha (Nat.le_trans hk HS.out)
      obtain ⟨F, hF⟩ : ∃ F, F = foldF a := ⟨_, rfl⟩
      have HF := Lib.hid (show sumV s = 65535 - F by rw [hF, ha, hks]; rfl)
      have HL := Lib.hid (show (a : Int) ≤ 1305600000 from la)
      have HFa := Lib.hid hF.symm
      clear hks hF ha hlt hk la
      go_wp2_with fail
      obtain ⟨w0, hw0⟩ : ∃ w0 : World, w0 = w := ⟨_, rfl⟩
      go_loopw [3] (fun n wr => ∃ m : Nat, n = .int .i64 m ∧ (m : Int) ≤ 1305600000 ∧ foldF m = F ∧ w = wr) (fun n _ => (intOf n).toNat)
      case atStart => exact ⟨a, rfl, HL.out, HFa.out, rfl⟩
      case round =>
        obtain ⟨m, rfl, hm, hmF, rfl⟩ := hrel
        by_cases h6 : 65536 ≤ m
        · obtain ⟨st1, st2⟩ := foldF_step h6
          obtain ⟨q, hq⟩ : ∃ q, q = m / 65536 := ⟨_, rfl⟩
          obtain ⟨r, hr⟩ : ∃ r, r = m % 65536 := ⟨_, rfl⟩
          rw [← hq, ← hr] at st1 st2
          have e2 : (m : Int) / 65536 = q := by omega
          have e1 : (m : Int) % 65536 = r := by omega
          have e5 : (r : Int) ≤ 65535 := by omega
          have e6 : (q : Int) ≤ 65535 := by omega
          have e7 : 65535 < (m : Int) := by omega
          have HS := Lib.hid (And.intro st1 (And.intro st2 (And.intro hmF (show ((r + q : Nat) : Int) ≤ 1305600000 by omega))))
          clear st1 st2 hq hr hmF h6
          go_wp2_with fail
          go_roundw
          case rel => exact ⟨r + q, by go_num, HS.out.2.2.2, HS.out.1.trans HS.out.2.2.1, trivial⟩
          case measure => have := HS.out.2.1; simp [intOf]; omega
        · have e5 : (m : Int) ≤ 65535 := by omega
          have hmm : m = F := by rw [← hmF]; exact (foldF_small (by omega)).symm
          have HM := Lib.hid hmm
          clear hmF hmm h6 hm
          go_wp2_with fail
          go_ret
          refine ⟨ret_int ?_, rfl⟩
          rw [HF.out, ← HM.out]
          try simp
          omega

end Go.Proofs.Ytgonakpoflacoaa
