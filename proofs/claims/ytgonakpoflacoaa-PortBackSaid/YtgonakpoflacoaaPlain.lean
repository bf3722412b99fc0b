/-
  The plain law: the sum put to its place makes the sum zero; one byte turned makes it another.
-/
import Derived.Test.YtgonakpoflacoaaWorks
set_option linter.unusedVariables false
set_option linter.unusedSimpArgs false
namespace Go.Proofs.Ytgonakpoflacoaa
open Go.RowKit

theorem acc_same {s s' : ByteArray} : ∀ {n : Nat}, (∀ k, k < n → bt s' k = bt s k) → accS s' n = accS s n
  | 0, _ => rfl
  | n + 1, h => by
    show accS s' n + bt s' n * wgt n = accS s n + bt s n * wgt n
    rw [acc_same (fun k hk => h k (by omega)), h n (by omega)]
theorem acc_one {s s' : ByteArray} {j : Nat} : ∀ {n : Nat}, j < n → (∀ k, k < n → k ≠ j → bt s' k = bt s k) → accS s' n + bt s j * wgt j = accS s n + bt s' j * wgt j
  | 0, hj, _ => absurd hj (Nat.not_lt_zero _)
  | n + 1, hj, h => by
    show accS s' n + bt s' n * wgt n + _ = accS s n + bt s n * wgt n + _
    by_cases hn : j = n
    · subst hn
      rw [acc_same (fun k hk => h k (by omega) (by omega))]
      omega
    · have := acc_one (n := n) (by omega) (fun k hk hne => h k (by omega) hne)
      rw [h n (by omega) (fun e => hn e.symm)]
      omega
theorem acc_two {s s' : ByteArray} {j : Nat} : ∀ {n : Nat}, j + 1 < n → (∀ k, k < n → k ≠ j → k ≠ j + 1 → bt s' k = bt s k) →
    accS s' n + bt s j * wgt j + bt s (j + 1) * wgt (j + 1) = accS s n + bt s' j * wgt j + bt s' (j + 1) * wgt (j + 1)
  | 0, hj, _ => absurd hj (Nat.not_lt_zero _)
  | n + 1, hj, h => by
    show accS s' n + bt s' n * wgt n + _ + _ = accS s n + bt s n * wgt n + _ + _
    by_cases hn : j + 1 = n
    · subst hn
      have := acc_one (s := s) (s' := s') (j := j) (n := j + 1) (by omega) (fun k hk hne => h k (by omega) hne (by omega))
      omega
    · have := acc_two (n := n) (by omega) (fun k hk hne hne2 => h k (by omega) hne hne2)
      rw [h n (by omega) (by omega) (fun e => hn e.symm)]
      omega
theorem bt_byt (d : ByteArray) (i : Nat) : bt d i = byt d i := by
  unfold bt byt
  simp [Array.getD_eq_getD_getElem?, List.getD_eq_getElem?_getD]
theorem bt_append (a b : ByteArray) (k : Nat) : bt (a ++ b) k = if k < a.size then bt a k else bt b (k - a.size) := by
  have hs : a.size = a.data.size := rfl
  unfold bt
  rw [ByteArray.data_append, Array.getD_eq_getD_getElem?, Array.getD_eq_getD_getElem?, Array.getD_eq_getD_getElem?]
  split
  · rw [Array.getElem?_append_left (by omega)]
  · rw [Array.getElem?_append_right (by omega), hs]
theorem bt_over (d : ByteArray) (k : Nat) (h : d.size ≤ k) : bt d k = 0 := by
  have hs : d.size = d.data.size := rfl
  unfold bt
  rw [Array.getD_eq_getD_getElem?, Array.getElem?_eq_none (by omega)]
  rfl
theorem bt_extract (d : ByteArray) (a b k : Nat) (h : a + k < b) : bt (d.extract a b) k = bt d (a + k) := by
  unfold bt
  rw [ByteArray.data_extract, Array.getD_eq_getD_getElem?, Array.getD_eq_getD_getElem?, Array.getElem?_extract]
  have hs : d.size = d.data.size := rfl
  split
  · rfl
  · rw [Array.getElem?_eq_none (by omega)]
theorem bt_be2 (x : Nat) : bt (beS x 2) 0 = x / 256 % 256 ∧ bt (beS x 2) 1 = x % 256 := by
  constructor <;> simp [bt, beS, beL, List.range, List.range.loop]
theorem bt_put (p : Pk) (k i : Nat) (hk : k + 2 ≤ p.data.size) : bt (putS p k) i = if i = k then sumX p / 256 % 256 else if i = k + 1 then sumX p % 256 else bt p.data i := by
  have z1 : (p.data.extract 0 k).size = k := by rw [ByteArray.size_extract]; omega
  have z2 : (beS (sumX p) 2).size = 2 := beS_size _ _
  obtain ⟨b0, b1⟩ := bt_be2 (sumX p)
  unfold putS
  rw [bt_append, bt_append, ByteArray.size_append, z1, z2]
  by_cases h1 : i < k
  · rw [if_pos (by omega), if_pos h1, bt_extract _ _ _ _ (by omega), if_neg (by omega), if_neg (by omega), Nat.zero_add]
  · by_cases h2 : i = k
    · subst h2
      rw [if_pos (by omega), if_neg h1, if_pos rfl, Nat.sub_self, b0]
    · by_cases h3 : i = k + 1
      · subst h3
        rw [if_pos (by omega), if_neg h1, if_neg h2, if_pos rfl, show k + 1 - k = 1 by omega, b1]
      · rw [if_neg (by omega), if_neg h2, if_neg h3]
        by_cases h4 : i < p.data.size
        · rw [bt_extract _ _ _ _ (by omega), show k + 2 + (i - (k + 2)) = i by omega]
        · rw [bt_over _ _ (by rw [ByteArray.size_extract]; omega), bt_over _ _ (by omega)]
theorem ahead_even (p : Pk) (h : p.src.v6 = p.dst.v6) : (aheadS p).size % 2 = 0 := by
  unfold aheadS
  split
  · simp only [ByteArray.size_append, beS_size]
    have : ∀ a : Ad, (adS a).size % 2 = 0 := fun a => by
      unfold adS
      split
      · simp only [ByteArray.size_append, beS_size]
      · rw [beS_size]
    have h1 := this p.src
    have h2 := this p.dst
    show ((adS p.src).size + (adS p.dst).size + 2 + 2) % 2 = 0
    omega
  · rfl
theorem ahead_put (p : Pk) (d : ByteArray) (h : d.size = p.data.size) : aheadS { p with data := d } = aheadS p := by
  unfold aheadS pseudo
  simp only [h]
/-- What is made has the sum zero. -/
theorem put_sum (p : Pk) (k : Nat) (hk : k + 2 ≤ p.data.size) (he : k % 2 = 0) (hv : p.src.v6 = p.dst.v6) (z0 : bt p.data k = 0) (z1 : bt p.data (k + 1) = 0) : sumP { p with data := putS p k } = 0 := by
  have hA := ahead_even p hv
  have hS : (putS p k).size = p.data.size := putS_size hk
  obtain ⟨A, hAe⟩ : ∃ A, A = aheadS p := ⟨_, rfl⟩
  have hX : sumX p ≤ 65535 := sumX_le p
  have hacc := acc_two (s := A ++ p.data) (s' := A ++ putS p k) (j := A.size + k) (n := (A ++ p.data).size) (by rw [ByteArray.size_append]; omega) (fun i hi h1 h2 => by
    rw [bt_append, bt_append]
    split
    · rfl
    · rw [bt_put p k _ hk, if_neg (by omega), if_neg (by omega)])
  rw [← hAe] at hA
  have w0 : wgt (A.size + k) = 256 := by unfold wgt; rw [if_pos (by omega)]
  have w1 : wgt (A.size + k + 1) = 1 := by unfold wgt; rw [if_neg (by omega)]
  rw [w0, w1] at hacc
  have b0 : bt (A ++ p.data) (A.size + k) = 0 := by rw [bt_append, if_neg (by omega), show A.size + k - A.size = k by omega, z0]
  have b1 : bt (A ++ p.data) (A.size + k + 1) = 0 := by rw [bt_append, if_neg (by omega), show A.size + k + 1 - A.size = k + 1 by omega, z1]
  have b2 : bt (A ++ putS p k) (A.size + k) = sumX p / 256 % 256 := by rw [bt_append, if_neg (by omega), show A.size + k - A.size = k by omega, bt_put p k _ hk, if_pos rfl]
  have b3 : bt (A ++ putS p k) (A.size + k + 1) = sumX p % 256 := by rw [bt_append, if_neg (by omega), show A.size + k + 1 - A.size = k + 1 by omega, bt_put p k _ hk, if_neg (by omega), if_pos rfl]
  rw [b0, b1, b2, b3] at hacc
  unfold sumP
  rw [ahead_put p (putS p k) hS, ← hAe]
  show 65535 - foldF (accS (A ++ putS p k) (A ++ putS p k).size) = 0
  rw [show (A ++ putS p k).size = (A ++ p.data).size by rw [ByteArray.size_append, ByteArray.size_append, hS]]
  obtain ⟨x, hx⟩ : ∃ x, x = sumX p := ⟨_, rfl⟩
  obtain ⟨m, hm⟩ : ∃ m, m = accS (A ++ p.data) (A ++ p.data).size := ⟨_, rfl⟩
  obtain ⟨m', hm'⟩ : ∃ m, m = accS (A ++ putS p k) (A ++ p.data).size := ⟨_, rfl⟩
  rw [← hm', ← hm, ← hx] at hacc
  rw [← hm']
  rw [← hx] at hX
  have hsx : x = (if 65535 - foldF m = 0 ∧ p.proto = 17 then 65535 else 65535 - foldF m) := by
    rw [hx, hm, hAe]
    rfl
  have hm2 : m' = m + x := by omega
  rw [hm2]
  clear hacc hm hm' hx hm2
  unfold foldF at *
  split at hsx <;> (split at hsx <;> split <;> omega)
/-- One byte turned. -/
theorem turn_sum {s s' : ByteArray} (j : Nat) (hj : j < s.size) (hs : s'.size = s.size) (he : ∀ k, k ≠ j → bt s' k = bt s k) (hne : bt s' j ≠ bt s j) (h0 : sumV s = 0) : sumV s' ≠ 0 := by
  have hacc := acc_one (s := s) (s' := s') (j := j) (n := s.size) hj (fun k _ hk => he k hk)
  have l1 := bt_lt s j
  have l2 := bt_lt s' j
  unfold sumV at *
  rw [hs]
  obtain ⟨m, hm⟩ : ∃ m, m = accS s s.size := ⟨_, rfl⟩
  obtain ⟨m', hm'⟩ : ∃ m, m = accS s' s.size := ⟨_, rfl⟩
  rw [← hm', ← hm] at hacc
  rw [← hm]at h0
  rw [← hm']
  have hw : wgt j = 256 ∨ wgt j = 1 := by unfold wgt; split <;> simp
  unfold foldF at *
  rcases hw with hw | hw <;> rw [hw] at hacc <;> (split at h0 <;> split <;> omega)

end Go.Proofs.Ytgonakpoflacoaa
