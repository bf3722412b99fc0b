/-
  The walk.
-/
import Derived.Test.YtoplbfijodebmaaGreatDoorM22Step
import Derived.Laws.StructEq
set_option linter.unusedVariables false
set_option linter.unusedSimpArgs false
set_option maxRecDepth 100000
set_option maxHeartbeats 40000000
namespace Go.Proofs.YtoplbfijodebmaaGreatDoor
open Go.RowKit T
theorem made_lk (m : Nat) : madeCells #[.int .u8 0] m = lk .u8 (zi m) := by
 apply Array.ext'
 apply List.ext_getElem?
 intro i
 unfold madeCells lk zi
 simp [List.getElem?_replicate]
 by_cases h : i < m
 ·simp [h, Nat.mod_one]
 simp [h]
theorem make_u8 (m : Nat) (hm : m ≤ 1000000) (w : World) : (Instr.makeSlice 52 (.int .i64 (m : Int)) (.int .i64 (m : Int))).run Tryz.prog w = .ok (.slice (some ⟨w.heap.size, 0, none⟩) m m) (w.alloc (.cells (lk .u8 (zi m)) 5)) := by
 have h := run_make_row' (P := Tryz.prog) 52 5 (.int .u8 0) 1 Tryz.underlying52 Tryz.info5 rfl .i64 .i64 m (by omega) (by omega) w
 rw [made_lk] at h
 exact h
theorem ne_list {a b : ByteArray} (h : a ≠ b) : (a.toList == b.toList) = false := by
 rw [beq_eq_false_iff_ne]
 intro e
 rw [ByteArray.toList_eq, ByteArray.toList_eq] at e
 exact h (ByteArray.ext (Array.toList_inj.1 e))
theorem eq_list {a b : ByteArray} (h : a = b) : (a.toList == b.toList) = true := by
 subst h; exact beq_self_eq_true _
def nineS : ByteArray := strOfNums ((zi 32).set 0 9)
theorem nineS_size : nineS.size = 32 := by rw [nineS, sb_size, List.length_set, zi_len]
theorem zi_conv (m : Nat) : strOfNums (zi m) = zeroB m := by
 unfold strOfNums zi zeroB
 congr 1
 apply Array.ext'
 simp
theorem public_any (s : ByteArray) (hs : s.size = 32) (w : World) : Calls Tryz.prog 34 #[.string s] w fun e w' => e = .returned (.tuple #[.string (ladS s nineS), .int .i64 0]) ∧ Below w.heap.size w w' := by
 have h33 : (s.size : Int) = 32 := by omega
 have HS := hDx hs
 clear hs
 go_enter Tryz.func34, Tryz.ntmps34
 have HK0 := hDx (KS.start w)
 go_upto_region 4 with (fail)
 have hm1 := (HK0.out.made (.cells ZRu8x32 115))
 obtain ⟨A, hgA⟩ := nm w.heap.size
 obtain ⟨ww1, hv1⟩ := nm (World.alloc w (.cells ZRu8x32 115))
 rw [← hv1, ← hgA] at hm1
 rw [← hv1]
 try rw [← hgA]
 have HK1 : Hid (KS [(A, .cells (lk .u8 (zi 32)) 115)] [] w ww1) := hDx hm1
 clear hm1 hv1 hgA
 have c0 := (HK1.out.rk 0 rfl (zi_len 32)).cell 0 (by decide)
 have z0 := (HK1.out.rk 0 rfl (zi_len 32)).fz
 go_upto_region 5 with fail
 obtain ⟨ww2, hv2⟩ := nm (World.setCell ww1 ⟨A, 0, none⟩ (.int .u8 (9)))
 have HK2 : Hid (KS [(A, .cells (lk .u8 ((zi 32).set 0 9)) 115)] [] w ww2) := by rw [hv2]; exact hDx (HK1.out.setK 0 rfl 0 (9))
 rw [← hv2]
 clear hv2
 clear c0 z0
 have hcv := (HK2.out.rk 0 rfl (show ((zi 32).set 0 (9 : Int)).length = 32 by rw [List.length_set, zi_len])).conv 32
 rw [show strOfNums ((zi 32).set 0 9) = nineS from rfl] at hcv
 go_wp2_with fail
 refine (ladder_any s nineS HS.out nineS_size _).mono ?_
 rintro e ww3 ⟨rfl, B1⟩
 simp only []
 have HK3 := hDx (HK2.out.call B1)
 clear B1
 go_wp2_with fail
 go_ret2
 exact ⟨rfl, HK3.out.below⟩
theorem shared_any (s u : ByteArray) (hs : s.size = 32) (hu : u.size = 32) (hz : ladS s u ≠ zeroB 32) (w : World) : Calls Tryz.prog 62 #[.string s, .string u] w fun e w' => e = .returned (.tuple #[.string (ladS s u), .int .i64 0]) ∧ Below w.heap.size w w' := by
 have h33 : (s.size : Int) = 32 := by omega
 have h34 : (u.size : Int) = 32 := by omega
 obtain ⟨L, hL⟩ := nm (ladS s u)
 have hla := fun w => ladder_any s u hs hu w
 rw [← hL] at hla hz
 rw [← hL]
 have hlz := ne_list hz
 clear hs hu hL
 go_enter Tryz.func62, Tryz.ntmps62
 have HK0 := hDx (KS.start w)
 go_wp2_with fail
 refine (hla _).mono ?_
 rintro e ww1 ⟨rfl, B1⟩
 simp only []
 have HK1 := hDx (HK0.out.call B1)
 clear B1
 clear hla
 have hmk := fun w => make_u8 32 (by decide) w
 simp only [Int.cast_ofNat_Int] at hmk
 have hcv := (rk_new ww1 5 32 .u8 (zi 32) (zi_len 32)).conv 32
 rw [zi_conv] at hcv
 go_upto_if 21 with fail
 go_wp2_with fail
 go_ret2
 exact ⟨rfl, HK1.out.below.alloc (HK1.out.size) _⟩
def pubS (s : ByteArray) : ByteArray := ladS s nineS
theorem pubS_size (s : ByteArray) : (pubS s).size = 32 := ladS_size _ _
theorem bt_clamp (s : ByteArray) (hs : s.size = 32) (j : Nat) : bt (clampS s) j = if j = 31 then bt s 31 % 128 % 64 + 64 else if j = 0 then bt s 0 / 8 * 8 else bt s j := by
 have hl : (bl s).length = 32 := (bl_len s).trans hs
 have k1 : ∀ x : Nat, x < 256 → x &&& 248 = x / 8 * 8 := by decide
 have k2 : ∀ x : Nat, x < 256 → (x &&& 127) ||| 64 = x % 128 % 64 + 64 := by decide
 have b0 := bt_lt s 0
 have b31 := bt_lt s 31
 have e0 : bits .and .u8 (ia (bl s) 0) 248 = ((bt s 0 / 8 * 8 : Nat) : Int) := by
  rw [bl_at]
  have := u8_and_nat (bt s 0) 248 b0 (by decide)
  rw [k1 _ b0] at this
  exact this
 have e31 : bits .or .u8 (bits .and .u8 (ia (bl s) 31) 127) 64 = ((bt s 31 % 128 % 64 + 64 : Nat) : Int) := by
  rw [bl_at]
  have h1 := u8_and_nat (bt s 31) 127 b31 (by decide)
  have h2 := u8_or_nat (bt s 31 &&& 127) 64 (Nat.lt_of_le_of_lt Nat.and_le_right (by decide)) (by decide)
  rw [k2 _ b31] at h2
  rw [show bits .and .u8 (bt s 31 : Int) 127 = ((bt s 31 &&& 127 : Nat) : Int) from h1]
  exact h2
 have hc : clampL (bl s) = ((bl s).set 0 ((bt s 0 / 8 * 8 : Nat) : Int)).set 31 ((bt s 31 % 128 % 64 + 64 : Nat) : Int) := by unfold clampL; rw [e0, e31]
 have hB : Byt (((bl s).set 0 ((bt s 0 / 8 * 8 : Nat) : Int)).set 31 ((bt s 31 % 128 % 64 + 64 : Nat) : Int)) := byt_set (byt_set (byt_bl s) _ _ (by omega)) _ _ (by omega)
 have h1 := bt_sb _ hB j
 unfold clampS
 rw [hc]
 refine Int.ofNat_inj.1 (h1.trans ?_)
 by_cases c1 : j = 31
 ·subst c1
  rw [if_pos rfl, ia_set _ _ _ _ (by rw [List.length_set]; omega), if_pos rfl]
 rw [if_neg c1, ia_set_o _ _ _ _ (fun x => c1 x.symm)]
 by_cases c2 : j = 0
 ·subst c2
  rw [if_pos rfl, ia_set _ _ _ _ (by omega), if_pos rfl]
 rw [if_neg c2, ia_set_o _ _ _ _ (fun x => c2 x.symm), bl_at]
theorem clamp_num (s : ByteArray) (hs : s.size = 32) : leN (clampS s) 32 % 8 = 0 ∧ 2 ^ 254 ≤ leN (clampS s) 32 ∧ leN (clampS s) 32 < 2 ^ 255 := by
 have h8 : ∀ n, leN (clampS s) (n + 1) % 8 = bt (clampS s) 0 % 8 := fun n => by
  induction n with
  | zero => simp [leN]
  | succ n ih =>
   have e : leN (clampS s) (n + 1 + 1) = leN (clampS s) (n + 1) + 8 * (bt (clampS s) (n + 1) * (32 * 256 ^ n)) := by
    rw [leN, Nat.pow_succ]
    congr 1
    rw [show (256 : Nat) ^ n * 256 = 8 * (32 * 256 ^ n) by omega, Nat.mul_left_comm]
   rw [e, Nat.add_mul_mod_self_left, ih]
 have b0 := bt_clamp s hs 0
 have b31 := bt_clamp s hs 31
 simp only [if_true, show ¬ ((0 : Nat) = 31) by decide, if_false] at b0 b31
 have h1 := h8 31
 have h2 := leN_lt (clampS s) 31
 have e : leN (clampS s) 32 = leN (clampS s) 31 + bt (clampS s) 31 * 256 ^ 31 := rfl
 refine ⟨by rw [h1, b0]; omega, ?_, ?_⟩
 ·rw [e, b31]
  generalize leN (clampS s) 31 = n at h2
  generalize bt s 31 % 128 = x
  simp only [Nat.reducePow] at h2 ⊢
  omega
 rw [e, b31]
 generalize leN (clampS s) 31 = n at h2
 generalize bt s 31 % 128 = x
 simp only [Nat.reducePow] at h2 ⊢
 omega
theorem lad_far (s : ByteArray) (hs : s.size = 32) : ¬ Lo ∣ leN (clampS s) 32 := clamp_far (clamp_num s hs).1 (clamp_num s hs).2.1 (clamp_num s hs).2.2
theorem u127_nine : fe (leN (u127 nineS) 32) = 9 := by
 have h : leN (u127 nineS) 32 = 9 := by decide +kernel
 rw [h]
 rfl
theorem fe_F (X : F) : fe X.val = X := Fin.ext (Nat.mod_eq_of_lt X.isLt)
theorem P_lt : P < 2 ^ 255 := by decide +kernel
theorem u127_leS (X : F) : fe (leN (u127 (leS X.val 32)) 32) = X := by
 have h := X.isLt
 have hP := P_lt
 rw [u127_leN _ (leS_size _ _), leN_leS _ _ 32 (Nat.le_refl _)]
 rw [Nat.mod_eq_of_lt (a := X.val) (b := 256 ^ 32) (by rw [p256]; exact Nat.lt_of_lt_of_le (Nat.lt_trans h hP) (by decide))]
 rw [Nat.mod_eq_of_lt (a := X.val) (by exact Nat.lt_of_lt_of_le (Nat.lt_trans h hP) (by decide))]
 exact fe_F X
theorem pub_lad (s : ByteArray) : pubS s = leS (lad (leN (clampS s) 32) 9).val 32 := by
 unfold pubS ladS
 rw [u127_nine]
theorem lad_pub (a b : ByteArray) : ladS a (pubS b) = leS (lad (leN (clampS a) 32) (lad (leN (clampS b) 32) 9)).val 32 := by
 rw [pub_lad b, ladS, u127_leS]
theorem leS_zero {X : F} (h : leS X.val 32 = zeroB 32) : X = 0 := by
 have hP := P_lt
 have h1 := leN_leS X.val 32 32 (Nat.le_refl _)
 have h2 : leN (zeroB 32) 32 = 0 := by decide +kernel
 rw [h, h2, Nat.mod_eq_of_lt (by rw [p256]; exact Nat.lt_of_lt_of_le (Nat.lt_trans X.isLt hP) (by decide))] at h1
 exact Fin.ext h1.symm
theorem same_both (a b : ByteArray) (ha : a.size = 32) (hb : b.size = 32) : ladS a (pubS b) = ladS b (pubS a) ∧ ladS a (pubS b) ≠ zeroB 32 := by
 obtain ⟨h1, h2⟩ := exchange (clamp_num a ha).2.2 (clamp_num b hb).2.2 (lad_far a ha) (lad_far b hb)
 refine ⟨?_, fun h => ?_⟩
 ·rw [lad_pub, lad_pub, h1]
 rw [lad_pub] at h
 exact h2 (leS_zero h)
end Go.Proofs.YtoplbfijodebmaaGreatDoor
