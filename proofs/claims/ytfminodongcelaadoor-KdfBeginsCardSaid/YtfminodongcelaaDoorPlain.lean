/-
  The sum in plain Lean: words of a piece, rounds, one piece taken.
-/
import Derived.Test.YtfminodongcelaaDoorOrder
set_option linter.unusedVariables false
namespace Go.Proofs.YtfminodongcelaaDoor

def bt (p : ByteArray) (i : Nat) : Nat := (p.data.getD i 0).toNat
theorem bt_lt (p : ByteArray) (i : Nat) : bt p i < 256 := UInt8.toNat_lt _
/-- The words of a piece, byte by byte from its beginning. -/
def pw (p : ByteArray) : Nat → List Nat
  | 0 => zeros 16
  | n + 1 => (pw p n).set (n / 4) (at_ (pw p n) (n / 4) ||| (bt p n * 2 ^ (n % 4 * 8) % 4294967296))
/-- The same from its end. -/
def rw_ (p : ByteArray) : Nat → List Nat
  | 0 => zeros 16
  | n + 1 => (rw_ p n).set ((63 - n) / 4) ((at_ (rw_ p n) ((63 - n) / 4) * 256 % 4294967296) ||| bt p (63 - n))

theorem pw_len (p : ByteArray) : ∀ n, (pw p n).length = 16
  | 0 => rfl
  | n + 1 => by simp only [pw, List.length_set]; exact pw_len p n
theorem rw_len (p : ByteArray) : ∀ n, (rw_ p n).length = 16
  | 0 => rfl
  | n + 1 => by simp only [rw_, List.length_set]; exact rw_len p n
theorem at_zero (j : Nat) : at_ (zeros 16) j = 0 := by
  unfold at_ zeros
  rw [List.getD_eq_getElem?_getD, List.getElem?_replicate]
  split <;> rfl

def g (c : Bool) (x : Nat) : Nat := if c then x else 0
/-- What word j holds when the first n bytes have come. -/
def pv (p : ByteArray) (n j : Nat) : Nat :=
  g (4 * j < n) (bt p (4 * j)) + g (4 * j + 1 < n) (bt p (4 * j + 1)) * 256 + g (4 * j + 2 < n) (bt p (4 * j + 2)) * 65536 + g (4 * j + 3 < n) (bt p (4 * j + 3)) * 16777216
theorem pv0 (p : ByteArray) (j : Nat) : pv p (4 * j) j = 0 := by
  unfold pv g
  simp only [decide_eq_true_eq]
  rw [if_neg (show ¬ 4 * j < 4 * j by omega), if_neg (show ¬ 4 * j + 1 < 4 * j by omega), if_neg (show ¬ 4 * j + 2 < 4 * j by omega), if_neg (show ¬ 4 * j + 3 < 4 * j by omega)]
theorem pv1 (p : ByteArray) (j : Nat) : pv p (4 * j + 1) j = bt p (4 * j) := by
  unfold pv g
  simp only [decide_eq_true_eq]
  rw [if_pos (show 4 * j < 4 * j + 1 by omega), if_neg (show ¬ 4 * j + 1 < 4 * j + 1 by omega), if_neg (show ¬ 4 * j + 2 < 4 * j + 1 by omega), if_neg (show ¬ 4 * j + 3 < 4 * j + 1 by omega)]
  omega
theorem pv2 (p : ByteArray) (j : Nat) : pv p (4 * j + 2) j = bt p (4 * j) + bt p (4 * j + 1) * 256 := by
  unfold pv g
  simp only [decide_eq_true_eq]
  rw [if_pos (show 4 * j < 4 * j + 2 by omega), if_pos (show 4 * j + 1 < 4 * j + 2 by omega), if_neg (show ¬ 4 * j + 2 < 4 * j + 2 by omega), if_neg (show ¬ 4 * j + 3 < 4 * j + 2 by omega)]
  omega
theorem pv3 (p : ByteArray) (j : Nat) : pv p (4 * j + 3) j = bt p (4 * j) + bt p (4 * j + 1) * 256 + bt p (4 * j + 2) * 65536 := by
  unfold pv g
  simp only [decide_eq_true_eq]
  rw [if_pos (show 4 * j < 4 * j + 3 by omega), if_pos (show 4 * j + 1 < 4 * j + 3 by omega), if_pos (show 4 * j + 2 < 4 * j + 3 by omega), if_neg (show ¬ 4 * j + 3 < 4 * j + 3 by omega)]
  omega
theorem pv4 (p : ByteArray) (j : Nat) : pv p (4 * j + 4) j = bt p (4 * j) + bt p (4 * j + 1) * 256 + bt p (4 * j + 2) * 65536 + bt p (4 * j + 3) * 16777216 := by
  unfold pv g
  simp only [decide_eq_true_eq]
  rw [if_pos (show 4 * j < 4 * j + 4 by omega), if_pos (show 4 * j + 1 < 4 * j + 4 by omega), if_pos (show 4 * j + 2 < 4 * j + 4 by omega), if_pos (show 4 * j + 3 < 4 * j + 4 by omega)]
theorem or_add (x y k : Nat) (hx : x < 2 ^ k) : x ||| y * 2 ^ k = x + y * 2 ^ k := by
  rw [Nat.or_comm, Nat.mul_comm y, ← Nat.two_pow_add_eq_or_of_lt hx]
  omega
theorem pw_at (p : ByteArray) : ∀ n, n ≤ 64 → ∀ j, j < 16 → at_ (pw p n) j = pv p n j
  | 0, _, j, _ => by rw [show pw p 0 = zeros 16 from rfl, at_zero]; simp [pv, g]
  | n + 1, hn, j, hj => by
    have ih := pw_at p n (by omega)
    simp only [pw]
    rw [at_set _ _ _ _ (by rw [pw_len]; omega)]
    have hb := bt_lt p n
    have b0 := bt_lt p (4 * j)
    have b1 := bt_lt p (4 * j + 1)
    have b2 := bt_lt p (4 * j + 2)
    have b3 := bt_lt p (4 * j + 3)
    by_cases h : n / 4 = j
    · rw [if_pos h, h, ih j hj]
      rcases (by omega : n = 4 * j ∨ n = 4 * j + 1 ∨ n = 4 * j + 2 ∨ n = 4 * j + 3) with e | e | e | e <;> subst e
      · rw [show (4 * j) % 4 * 8 = 0 by omega, Nat.mod_eq_of_lt (by omega), pv0, or_add _ _ _ (by omega), show 4 * j + 1 = 4 * j + 1 from rfl, pv1]
        omega
      · rw [show (4 * j + 1) % 4 * 8 = 8 by omega, Nat.mod_eq_of_lt (by omega), pv1, or_add _ _ _ (by omega), show 4 * j + 1 + 1 = 4 * j + 2 from rfl, pv2]
      · rw [show (4 * j + 2) % 4 * 8 = 16 by omega, Nat.mod_eq_of_lt (by omega), pv2, or_add _ _ _ (by omega), show 4 * j + 2 + 1 = 4 * j + 3 from rfl, pv3]
      · rw [show (4 * j + 3) % 4 * 8 = 24 by omega, Nat.mod_eq_of_lt (by omega), pv3, or_add _ _ _ (by omega), show 4 * j + 3 + 1 = 4 * j + 4 from rfl, pv4]
    · rw [if_neg h, ih j hj]
      have q0 : (4 * j < n + 1) = (4 * j < n) := by apply propext; omega
      have q1 : (4 * j + 1 < n + 1) = (4 * j + 1 < n) := by apply propext; omega
      have q2 : (4 * j + 2 < n + 1) = (4 * j + 2 < n) := by apply propext; omega
      have q3 : (4 * j + 3 < n + 1) = (4 * j + 3 < n) := by apply propext; omega
      simp only [pv, q0, q1, q2, q3]
/-- What word j holds when the bytes from number k on have come. -/
def rv (p : ByteArray) (k j : Nat) : Nat :=
  if k ≤ 4 * j then bt p (4 * j) + bt p (4 * j + 1) * 256 + bt p (4 * j + 2) * 65536 + bt p (4 * j + 3) * 16777216
  else if k = 4 * j + 1 then bt p (4 * j + 1) + bt p (4 * j + 2) * 256 + bt p (4 * j + 3) * 65536
  else if k = 4 * j + 2 then bt p (4 * j + 2) + bt p (4 * j + 3) * 256
  else if k = 4 * j + 3 then bt p (4 * j + 3) else 0
theorem or_add' (x y : Nat) (hy : y < 256) : x * 256 ||| y = y + x * 256 := by
  rw [Nat.or_comm]; exact or_add y x 8 (by omega)
theorem rw_at (p : ByteArray) : ∀ n, n ≤ 64 → ∀ j, j < 16 → at_ (rw_ p n) j = rv p (64 - n) j
  | 0, _, j, hj => by
    rw [show rw_ p 0 = zeros 16 from rfl, at_zero]
    unfold rv
    rw [if_neg (by omega), if_neg (by omega), if_neg (by omega), if_neg (by omega)]
  | n + 1, hn, j, hj => by
    have ih := rw_at p n (by omega)
    simp only [rw_]
    rw [at_set _ _ _ _ (by rw [rw_len]; omega)]
    have b0 := bt_lt p (4 * j)
    have b1 := bt_lt p (4 * j + 1)
    have b2 := bt_lt p (4 * j + 2)
    have b3 := bt_lt p (4 * j + 3)
    by_cases h : (63 - n) / 4 = j
    · rw [if_pos h, h, ih j hj]
      rcases (by omega : 63 - n = 4 * j ∨ 63 - n = 4 * j + 1 ∨ 63 - n = 4 * j + 2 ∨ 63 - n = 4 * j + 3) with e | e | e | e
      · rw [show 64 - n = 4 * j + 1 by omega, show 64 - (n + 1) = 4 * j by omega, e]
        unfold rv
        rw [if_neg (by omega), if_pos rfl, if_pos (by omega), Nat.mod_eq_of_lt (by omega), or_add' _ _ b0]
        omega
      · rw [show 64 - n = 4 * j + 2 by omega, show 64 - (n + 1) = 4 * j + 1 by omega, e]
        unfold rv
        rw [if_neg (by omega), if_neg (by omega), if_pos rfl, if_neg (by omega), if_pos rfl, Nat.mod_eq_of_lt (by omega), or_add' _ _ b1]
        omega
      · rw [show 64 - n = 4 * j + 3 by omega, show 64 - (n + 1) = 4 * j + 2 by omega, e]
        unfold rv
        rw [if_neg (by omega), if_neg (by omega), if_neg (by omega), if_pos rfl, if_neg (by omega), if_neg (by omega), if_pos rfl, Nat.mod_eq_of_lt (by omega), or_add' _ _ b2]
      · rw [show 64 - n = 4 * j + 4 by omega, show 64 - (n + 1) = 4 * j + 3 by omega, e]
        unfold rv
        rw [if_neg (by omega), if_neg (by omega), if_neg (by omega), if_neg (by omega), if_neg (by omega), if_neg (by omega), if_neg (by omega), if_pos rfl]
        exact Nat.zero_or _
    · rw [if_neg h, ih j hj]
      unfold rv
      by_cases c : 64 - n ≤ 4 * j
      · rw [if_pos c, if_pos (by omega)]
      · rw [if_neg c, if_neg (by omega), if_neg (by omega), if_neg (by omega), if_neg (by omega), if_neg (by omega), if_neg (by omega), if_neg (by omega)]
def words (p : ByteArray) : List Nat := pw p 64
theorem ext16 {u v : List Nat} (hu : u.length = 16) (hv : v.length = 16) (h : ∀ j, j < 16 → at_ u j = at_ v j) : u = v := by
  apply List.ext_getElem (by omega)
  intro i h1 h2
  have := h i (by omega)
  unfold at_ at this
  rw [List.getD_eq_getElem?_getD, List.getD_eq_getElem?_getD, List.getElem?_eq_getElem h1, List.getElem?_eq_getElem h2] at this
  exact this
theorem rw_words (p : ByteArray) : rw_ p 64 = words p :=
  ext16 (rw_len p 64) (pw_len p 64) fun j hj => by
    rw [rw_at p 64 (by omega) j hj]
    unfold words
    rw [pw_at p 64 (by omega) j hj]
    unfold rv pv g
    rw [if_pos (by omega)]
    simp [show 4 * j < 64 by omega, show 4 * j + 1 < 64 by omega, show 4 * j + 2 < 64 by omega, show 4 * j + 3 < 64 by omega]
theorem pw_lt (p : ByteArray) : ∀ n, ∀ i, at_ (pw p n) i < 4294967296
  | 0, i => at_zeros 16 i
  | n + 1, i => by
    simp only [pw]
    by_cases hn : n / 4 < 16
    · rw [at_set _ _ _ _ (by rw [pw_len]; exact hn)]
      split
      · exact Nat.or_lt_two_pow (n := 32) (pw_lt p n _) (Nat.mod_lt _ (by decide))
      · exact pw_lt p n i
    · rw [List.set_eq_of_length_le (by rw [pw_len]; omega)]
      exact pw_lt p n i
theorem rw_lt (p : ByteArray) : ∀ n, ∀ i, at_ (rw_ p n) i < 4294967296
  | 0, i => at_zeros 16 i
  | n + 1, i => by
    simp only [rw_]
    rw [at_set _ _ _ _ (by rw [rw_len]; omega)]
    split
    · exact Nat.or_lt_two_pow (n := 32) (Nat.mod_lt _ (by decide)) (Nat.lt_trans (bt_lt p _) (by decide))
    · exact rw_lt p n i

/-! ### The rounds. -/
def qa (i : Nat) : Nat := i % 4
def qb (i : Nat) : Nat := if i < 4 then 4 + i else 4 + (i - 4 + 1) % 4
def qc (i : Nat) : Nat := if i < 4 then 8 + i else 8 + (i - 4 + 2) % 4
def qd (i : Nat) : Nat := if i < 4 then 12 + i else 12 + (i - 4 + 3) % 4
def mixQ (v m : List Nat) (r i : Nat) : List Nat := mixL v (qa i) (qb i) (qc i) (qd i) (at_ m (sg r (2 * i))) (at_ m (sg r (2 * i + 1)))
def quads (v m : List Nat) (r : Nat) : Nat → List Nat
  | 0 => v
  | i + 1 => mixQ (quads v m r i) m r i
def rds (v m : List Nat) : Nat → List Nat
  | 0 => v
  | r + 1 => quads (rds v m r) m r 8
def vA (h : List Nat) (t : Nat) : List Nat := (h ++ iv).set 12 (at_ (h ++ iv) 12 ^^^ t % 4294967296)
def vB (h : List Nat) (t : Nat) : List Nat := (vA h t).set 13 (at_ (vA h t) 13 ^^^ t / 4294967296 % 4294967296)
def vC (h : List Nat) (t : Nat) (last : Bool) : List Nat := if last then (vB h t).set 14 (4294967295 ^^^ at_ (vB h t) 14) else vB h t
/-- The words behind the rounds, folded into the first i of h. -/
def folds (h v : List Nat) : Nat → List Nat
  | 0 => h
  | i + 1 => (folds h v i).set i (at_ (folds h v i) i ^^^ (at_ v i ^^^ at_ v (8 + i)))
/-- One piece taken. -/
def compress (h : List Nat) (p : ByteArray) (t : Nat) (last : Bool) : List Nat := folds h (rds (vC h t last) (words p) 10) 8

end Go.Proofs.YtfminodongcelaaDoor
