/-
  A text's sum, piece by piece: what bytes taken one by one come to.
-/
import Derived.Test.YtfminodongcelaaDoorAlive
set_option linter.unusedVariables false
namespace Go.Proofs.YtfminodongcelaaDoor

/-- The words when k whole pieces have been taken. -/
def ch (all : ByteArray) (h : List Nat) : Nat → List Nat
  | 0 => h
  | k + 1 => compress (ch all h k) (all.extract (64 * k) (64 * k + 64)) (w64 (64 * k + 64)) false
def whole (n : Nat) : Nat := (n - 1) / 64
def refS (h : List Nat) (all : ByteArray) (size : Nat) : ByteArray :=
  digs (compress (ch all h (whole all.size)) (pad (all.extract (64 * whole all.size) all.size)) (w64 all.size) true) size
def stN (h : List Nat) (all : ByteArray) (n : Nat) : HSt := { h := ch all h (whole n), r := all.extract (64 * whole n) n, n := w64 (64 * whole n) }

theorem ext_size (a : ByteArray) (i j : Nat) (h : j ≤ a.size) : (a.extract i j).size = j - i := by
  rw [ByteArray.size_extract, Nat.min_eq_left h]
theorem ext_push (a : ByteArray) (i n : Nat) (hi : i ≤ n) (hn : n < a.size) : (a.extract i n).push (a.data.getD n 0) = a.extract i (n + 1) := by
  apply ByteArray.ext
  have hd : n < a.data.size := hn
  show (a.extract i n).data.push _ = _
  rw [ByteArray.data_extract, ByteArray.data_extract]
  apply Array.ext
  · simp; omega
  · intro k h1 h2
    rw [Array.getElem_push]
    have hz : (a.data.extract i n).size = n - i := by simp; omega
    split
    · simp
    · have : k = n - i := by simp at h1; omega
      subst this
      simp [Nat.add_sub_cancel' hi]
theorem ext_nil (a : ByteArray) (i : Nat) : a.extract i i = .empty := by
  apply ByteArray.ext
  rw [ByteArray.data_extract]
  simp
  exact Nat.min_le_left _ _
theorem ext_one (a : ByteArray) (n : Nat) (hn : n < a.size) : (⟨#[a.data.getD n 0]⟩ : ByteArray) = a.extract n (n + 1) := by
  rw [← ext_push a n n (Nat.le_refl _) hn, ext_nil]
  rfl
theorem w64_w64 (a b : Nat) : w64 (w64 a + b) = w64 (a + b) := by unfold w64; omega

theorem addN_st (h : List Nat) (all : ByteArray) : ∀ n, n ≤ all.size → HSt.addN ⟨h, .empty, 0⟩ all n = stN h all n
  | 0, _ => by
    unfold stN
    show HSt.mk _ _ _ = _
    rw [show whole 0 = 0 from rfl, ext_nil]
    rfl
  | n + 1, hn => by
    show (HSt.addN ⟨h, .empty, 0⟩ all n).add1 (all.data.getD n 0) = _
    rw [addN_st h all n (by omega)]
    obtain ⟨K, hK⟩ : ∃ K, K = whole n := ⟨_, rfl⟩
    have hk : 64 * K ≤ n := by rw [hK]; unfold whole; omega
    have hz : (all.extract (64 * K) n).size = n - 64 * K := ext_size _ _ _ (by omega)
    unfold stN
    rw [← hK]
    unfold HSt.add1
    by_cases h64 : n - 64 * K = 64
    · have hn2 : n = 64 * K + 64 := by omega
      have hw : whole (n + 1) = K + 1 := by unfold whole; omega
      rw [if_pos (by show (all.extract (64 * K) n).size = 64; omega), hw]
      show HSt.mk _ _ _ = _
      have e1 : 64 * (K + 1) = n := by omega
      rw [ext_one all n (by omega), e1]
      have e2 : w64 (w64 (64 * K) + 64) = w64 n := by rw [w64_w64, hn2]
      show HSt.mk (compress (ch all h K) (all.extract (64 * K) n) (w64 (w64 (64 * K) + 64)) false) _ (w64 (w64 (64 * K) + 64)) = HSt.mk (compress (ch all h K) (all.extract (64 * K) (64 * K + 64)) (w64 (64 * K + 64)) false) _ _
      rw [e2, ← hn2]
    · have hw : whole (n + 1) = K := by
        have h1 : n < 64 * K + 64 := by
          have : n ≤ 64 * K + 64 := by rw [hK]; unfold whole; omega
          omega
        unfold whole
        omega
      rw [if_neg (by show ¬ (all.extract (64 * K) n).size = 64; omega), hw]
      show HSt.mk _ ((all.extract (64 * K) n).push _) _ = _
      rw [ext_push all _ n hk (by omega)]

theorem app_get_r (a b : ByteArray) (j : Nat) : (a ++ b).data.getD (a.size + j) 0 = b.data.getD j 0 := by
  rw [Array.getD_eq_getD_getElem?, Array.getD_eq_getD_getElem?, ByteArray.data_append]
  have hd : a.data.size = a.size := rfl
  rw [Array.getElem?_append_right (by omega), hd, Nat.add_sub_cancel_left]
theorem app_get_l (a b : ByteArray) (j : Nat) (h : j < a.size) : (a ++ b).data.getD j 0 = a.data.getD j 0 := by
  rw [Array.getD_eq_getD_getElem?, Array.getD_eq_getD_getElem?, ByteArray.data_append]
  have hd : a.data.size = a.size := rfl
  rw [Array.getElem?_append_left (by omega)]
theorem addN_left (x : HSt) (a b : ByteArray) : ∀ n, n ≤ a.size → x.addN (a ++ b) n = x.addN a n
  | 0, _ => rfl
  | n + 1, h => by
    show (x.addN (a ++ b) n).add1 ((a ++ b).data.getD n 0) = (x.addN a n).add1 (a.data.getD n 0)
    rw [addN_left x a b n (by omega), app_get_l a b n (by omega)]
theorem addN_right (x : HSt) (a b : ByteArray) : ∀ n, x.addN (a ++ b) (a.size + n) = (x.add a).addN b n
  | 0 => addN_left x a b a.size (Nat.le_refl _)
  | n + 1 => by
    show (x.addN (a ++ b) (a.size + n)).add1 ((a ++ b).data.getD (a.size + n) 0) = ((x.add a).addN b n).add1 (b.data.getD n 0)
    rw [addN_right x a b n, app_get_r]
theorem add_add (x : HSt) (a b : ByteArray) : (x.add a).add b = x.add (a ++ b) := by
  show _ = x.addN (a ++ b) (a ++ b).size
  rw [ByteArray.size_append, addN_right]
  rfl
def allOf (key s : ByteArray) : ByteArray := if key.size = 0 then s else key ++ zeroB (64 - key.size) ++ s
theorem newS_add (size : Nat) (key s : ByteArray) : (newS size key).add s = HSt.add ⟨iv.set 0 (word0 size key), .empty, 0⟩ (allOf key s) := by
  unfold newS allOf
  split
  · rfl
  · rw [add_add]
theorem st_sum (h : List Nat) (all : ByteArray) (size : Nat) : (HSt.add ⟨h, .empty, 0⟩ all).sum size = refS h all size := by
  show (HSt.addN ⟨h, .empty, 0⟩ all all.size).sum size = _
  rw [addN_st h all all.size (Nat.le_refl _)]
  unfold HSt.sum stN refS
  have hk : 64 * whole all.size ≤ all.size := by unfold whole; omega
  show digs (compress _ (pad (all.extract (64 * whole all.size) all.size)) (w64 (w64 (64 * whole all.size) + (all.extract (64 * whole all.size) all.size).size)) true) size = _
  rw [w64_w64, ext_size _ _ _ (Nat.le_refl _), Nat.add_sub_cancel' hk]
/-- Bytes taken one by one come to the sum by pieces. -/
theorem hashS_ref (size : Nat) (key s : ByteArray) : hashS size key s = refS (iv.set 0 (word0 size key)) (allOf key s) size := by
  unfold hashS
  rw [newS_add, st_sum]

end Go.Proofs.YtfminodongcelaaDoor
