/-
  What was written, one behind the other, as a stream of bytes; what the reader takes off its front.
-/
import Derived.Test.YtojfjjlmlefoiaaWorks
set_option linter.unusedVariables false
namespace Go.Proofs.Ytojfjjlmlefoiaa
open Go.RowKit

theorem beL_succ (x n : Nat) : beL x (n + 1) = UInt8.ofNat (x / 256 ^ n) :: beL x n := by
  unfold beL
  rw [List.range_succ_eq_map, List.map_cons, List.map_map]
  refine congr (congrArg _ (by simp)) (List.map_congr_left fun j hj => ?_)
  have : n + 1 - 1 - (j + 1) = n - 1 - j := by omega
  simp only [Function.comp, Nat.succ_eq_add_one, this]

theorem numOf_beL_from (x n : Nat) : ∀ a : Nat, (beL x n).foldl (fun y c => y * 256 + c.toNat) a = a * 256 ^ n + x % 256 ^ n := by
  induction n with
  | zero => intro a; simp [beL, Nat.mod_one]
  | succ n ih =>
    intro a
    rw [beL_succ, List.foldl_cons, ih]
    have h : (UInt8.ofNat (x / 256 ^ n)).toNat = x / 256 ^ n % 256 := by simp
    rw [h, Nat.pow_succ, Nat.mod_mul, Nat.add_mul, Nat.mul_assoc, Nat.mul_comm 256 (256 ^ n), Nat.mul_comm (x / 256 ^ n % 256)]
    omega
theorem numOf_beS (x n : Nat) : numOf (beS x n).data.toList = x % 256 ^ n := by
  have := numOf_beL_from x n 0
  simpa [numOf, beS] using this

/-- A reader without a fault, whose text begins with A. -/
theorem okB_front (A t : ByteArray) : okB (A ++ t) 0 (A.size : Int) = true := decide_eq_true ⟨rfl, by omega, by rw [ByteArray.size_append]; omega⟩
theorem outS_front (A t : ByteArray) (n : Nat) (h : A.size = n) : outS (A ++ t) 0 n = A := by
  subst h
  rw [outS, okB_front]
  simp [ByteArray.extract_append_eq_left]
theorem leftS_front (A t : ByteArray) (n : Nat) (h : A.size = n) : leftS (A ++ t) 0 n = t := by
  subst h
  rw [leftS, okB_front]
  simp [ByteArray.size_append, ByteArray.extract_append_eq_right]
theorem leftF_front (A t : ByteArray) (n : Nat) (h : A.size = n) : leftF (A ++ t) 0 n = 0 := by
  subst h
  rw [leftF, if_neg (by simp), if_neg (by omega), if_neg (by rw [ByteArray.size_append]; omega)]

theorem rd16 (x : Nat) (t : ByteArray) : (numOf (outS (beS x 2 ++ t) 0 2).data.toList = x % 65536) ∧ leftS (beS x 2 ++ t) 0 2 = t ∧ leftF (beS x 2 ++ t) 0 2 = 0 :=
  ⟨by rw [show outS (beS x 2 ++ t) 0 2 = beS x 2 from outS_front _ _ 2 (beS_size x 2), numOf_beS], leftS_front _ _ 2 (beS_size x 2), leftF_front _ _ 2 (beS_size x 2)⟩
theorem rd32 (x : Nat) (t : ByteArray) : (numOf (outS (beS x 4 ++ t) 0 4).data.toList = x % 4294967296) ∧ leftS (beS x 4 ++ t) 0 4 = t ∧ leftF (beS x 4 ++ t) 0 4 = 0 :=
  ⟨by rw [show outS (beS x 4 ++ t) 0 4 = beS x 4 from outS_front _ _ 4 (beS_size x 4), numOf_beS], leftS_front _ _ 4 (beS_size x 4), leftF_front _ _ 4 (beS_size x 4)⟩
theorem rd64 (x : Nat) (t : ByteArray) (hx : x < 18446744073709551616) : (numOf (outS (beS x 8 ++ t) 0 8).data.toList = x) ∧ leftS (beS x 8 ++ t) 0 8 = t ∧ leftF (beS x 8 ++ t) 0 8 = 0 :=
  ⟨by rw [show outS (beS x 8 ++ t) 0 8 = beS x 8 from outS_front _ _ 8 (beS_size x 8), numOf_beS]; exact Nat.mod_eq_of_lt hx, leftS_front _ _ 8 (beS_size x 8), leftF_front _ _ 8 (beS_size x 8)⟩

theorem rdText (u t : ByteArray) (hu : u.size ≤ 32768) : txtOut (beS u.size 2 ++ u ++ t) 0 = u ∧ txtS (beS u.size 2 ++ u ++ t) 0 = t ∧ txtF (beS u.size 2 ++ u ++ t) 0 = 0 := by
  rw [ByteArray.append_assoc]
  obtain ⟨h1, h2, h3⟩ := rd16 u.size (u ++ t)
  have hN : txtN (beS u.size 2 ++ (u ++ t)) 0 = u.size := by rw [txtN, h1]; exact Nat.mod_eq_of_lt (by omega)
  have hF : txtF1 (beS u.size 2 ++ (u ++ t)) 0 = 0 := by rw [txtF1, hN, h3, if_neg (by omega)]
  have hk : txtOk (beS u.size 2 ++ (u ++ t)) 0 = true := by rw [txtOk, h2, hF, hN]; exact okB_front u t
  refine ⟨?_, ?_, ?_⟩
  · rw [txtOut, h2, hF, hN]; exact outS_front u t _ rfl
  · rw [txtS, hk, h2, hF, hN]; exact leftS_front u t _ rfl
  · rw [txtF, h2, hF, hN]; exact leftF_front u t _ rfl

theorem div_mod_pow2 (x n j : Nat) (hj : j < n) : x % 256 ^ n / 256 ^ (n - 1 - j) % 256 = x / 256 ^ (n - 1 - j) % 256 := by
  have e : 256 ^ n = 256 ^ (n - 1 - j) * (256 * 256 ^ j) := by
    rw [← Nat.pow_succ', ← Nat.pow_add]; congr 1; omega
  rw [e, Nat.mod_mul_right_div_self, Nat.mod_mul_right_mod]
theorem beS_mod2 (x n : Nat) : beS (x % 256 ^ n) n = beS x n := by
  unfold beS beL
  congr 2
  refine List.map_congr_left fun j hj => ?_
  have hj := List.mem_range.1 hj
  apply UInt8.toNat_inj.1
  simp only [UInt8.toNat_ofNat']
  exact div_mod_pow2 x n j hj
theorem wput16 (x : Nat) (w : World) : Calls Try.prog 10 #[.int .u16 (IntKind.u16.wrap (x : Int))] w fun e w' => e = .returned (.string (beS x 2)) ∧ Below w.heap.size w w' := by
  have e : IntKind.u16.wrap (x : Int) = ((x % 65536 : Nat) : Int) := by rw [IntKind.wrap_u16]; omega
  have h := put16 (x % 65536) w (by omega)
  rwa [show beS (x % 65536) 2 = beS x 2 from beS_mod2 x 2, ← e] at h
theorem wput32 (x : Nat) (w : World) : Calls Try.prog 12 #[.int .u32 (IntKind.u32.wrap (x : Int))] w fun e w' => e = .returned (.string (beS x 4)) ∧ Below w.heap.size w w' := by
  have e : IntKind.u32.wrap (x : Int) = ((x % 4294967296 : Nat) : Int) := by rw [IntKind.wrap_u32]; omega
  have h := put32 (x % 4294967296) w (by omega)
  rwa [show beS (x % 4294967296) 4 = beS x 4 from beS_mod2 x 4, ← e] at h

/-! ### The stream. -/
def encN (x : Nat) : ByteArray := beS x 8 ++ (beS x 4 ++ beS x 2)
def encL : List Nat → ByteArray
  | [] => .empty
  | x :: xs => encN x ++ encL xs
def encT : List ByteArray → ByteArray
  | [] => .empty
  | u :: us => beS u.size 2 ++ u ++ encT us

theorem encL_snoc (xs : List Nat) (x : Nat) : encL (xs ++ [x]) = encL xs ++ beS x 8 ++ beS x 4 ++ beS x 2 := by
  induction xs with
  | nil => simp [encL, encN, ByteArray.append_assoc]
  | cons y ys ih => simp only [List.cons_append, encL, ih, ByteArray.append_assoc]
theorem encT_snoc (us : List ByteArray) (u : ByteArray) : encT (us ++ [u]) = encT us ++ (beS u.size 2 ++ u) := by
  induction us with
  | nil => simp [encT]
  | cons y ys ih => simp only [List.cons_append, encT, ih, ByteArray.append_assoc]
theorem encL_size (xs : List Nat) : (encL xs).size = 14 * xs.length := by
  induction xs with
  | nil => rfl
  | cons x xs ih => simp only [encL, encN, ByteArray.size_append, ih, beS_size, List.length_cons]; omega
def sumS : List ByteArray → Nat
  | [] => 0
  | u :: us => u.size + sumS us
theorem sumS_append (us vs : List ByteArray) : sumS (us ++ vs) = sumS us + sumS vs := by
  induction us with
  | nil => simp [sumS]
  | cons u us ih => simp only [List.cons_append, sumS, ih]; omega
theorem sumS_take (us : List ByteArray) (k : Nat) : sumS (us.take k) ≤ sumS us := by
  have h := sumS_append (us.take k) (us.drop k)
  rw [List.take_append_drop] at h
  omega
theorem sumS_step (us : List ByteArray) (k : Nat) (h : k < us.length) : sumS (us.take (k + 1)) = sumS (us.take k) + us[k].size := by
  rw [List.take_succ_eq_append_getElem h, sumS_append]; simp [sumS]
theorem encT_size (us : List ByteArray) : (encT us).size = 2 * us.length + sumS us := by
  induction us with
  | nil => rfl
  | cons u us ih => simp only [encT, ByteArray.size_append, ih, beS_size, List.length_cons, sumS]; omega
/-- The texts that go. -/
def good (u : ByteArray) : Bool := decide (u.size ≤ 32768)
theorem sumS_filter (us : List ByteArray) : sumS (us.filter good) ≤ sumS us := by
  induction us with
  | nil => simp [sumS]
  | cons u us ih =>
    rw [List.filter_cons]
    split
    · simp only [sumS]; omega
    · simp only [sumS]; omega
theorem filter_step (us : List ByteArray) (k : Nat) (h : k < us.length) : (us.take (k + 1)).filter good = (us.take k).filter good ++ if good us[k] then [us[k]] else [] := by
  rw [List.take_succ_eq_append_getElem h, List.filter_append, List.filter_cons]
  simp

end Go.Proofs.Ytojfjjlmlefoiaa
