/-
  The walk.
-/
import Derived.Test.YtoplbfijodebmaaGreatDoorM24RA
set_option linter.unusedVariables false
set_option linter.unusedSimpArgs false
set_option maxRecDepth 100000
set_option maxHeartbeats 40000000
namespace Go.Proofs.YtoplbfijodebmaaGreatDoor
section
open Go.RowKit T
def rl (x k : Nat) : Nat := rotr x (32 - k)
theorem rl_lt (x k : Nat) (hx : x < 4294967296) : rl x k < 4294967296 := rotr_lt x _ hx
theorem rotp_any (x k : Nat) (w : World) (hx : x < 4294967296) (hk : k = 16 ∨ k = 12 ∨ k = 8 ∨ k = 7) :
  Calls Tryz.prog 124 #[.int .u32 x, .int .i64 (k : Int)] w fun e w' => e = .returned (.int .u32 (rl x k : Nat)) ∧ w' = w := by
 rcases hk with rfl | rfl | rfl | rfl
 ·have hb : bits .and .u64 16 31 = 16 := by decide +kernel
  have ho := or_rotr' x 16 hx
  simp only [Nat.reduceSub, Int.reducePow] at ho
  show Calls Tryz.prog 124 #[.int .u32 x, .int .i64 16] w _
  go_enter Tryz.func124, Tryz.ntmps124
  go_wp2_with fail
  go_ret
  exact ⟨rfl, rfl⟩
 ·have hb : bits .and .u64 12 31 = 12 := by decide +kernel
  have ho := or_rotr' x 20 hx
  simp only [Nat.reduceSub, Int.reducePow] at ho
  show Calls Tryz.prog 124 #[.int .u32 x, .int .i64 12] w _
  go_enter Tryz.func124, Tryz.ntmps124
  go_wp2_with fail
  go_ret
  exact ⟨rfl, rfl⟩
 ·have hb : bits .and .u64 8 31 = 8 := by decide +kernel
  have ho := or_rotr' x 24 hx
  simp only [Nat.reduceSub, Int.reducePow] at ho
  show Calls Tryz.prog 124 #[.int .u32 x, .int .i64 8] w _
  go_enter Tryz.func124, Tryz.ntmps124
  go_wp2_with fail
  go_ret
  exact ⟨rfl, rfl⟩
 have hb : bits .and .u64 7 31 = 7 := by decide +kernel
 have ho := or_rotr' x 25 hx
 simp only [Nat.reduceSub, Int.reducePow] at ho
 show Calls Tryz.prog 124 #[.int .u32 x, .int .i64 7] w _
 go_enter Tryz.func124, Tryz.ntmps124
 go_wp2_with fail
 go_ret
 exact ⟨rfl, rfl⟩
def q1 (f : Nat → Nat) (a b : Nat) : Nat → Nat := upd f a (add32 (f a) (f b))
def q2 (f : Nat → Nat) (d a r : Nat) : Nat → Nat := upd f d (rl (f d ^^^ f a) r)
def hq (f : Nat → Nat) (a b c d r s : Nat) : Nat → Nat := q2 (q1 (q2 (q1 f a b) d a r) c d) b c s
def qr (f : Nat → Nat) (a b c d : Nat) : Nat → Nat := hq (hq f a b c d 16 12) a b c d 8 7
def W32 (f : Nat → Nat) : Prop := ∀ j, f j < 4294967296
theorem W32.upd {f : Nat → Nat} (h : W32 f) (i x : Nat) (hx : x < 4294967296) : W32 (upd f i x) := fun j => by
 unfold Proofs.YtoplbfijodebmaaGreatDoor.upd
 split
 ·exact hx
 ·exact h j
theorem q1_w {f : Nat → Nat} (h : W32 f) (a b : Nat) : W32 (q1 f a b) := h.upd a _ (add32_lt _ _)
theorem q2_w {f : Nat → Nat} (h : W32 f) (d a r : Nat) : W32 (q2 f d a r) := h.upd d _ (rl_lt _ r (xor32_lt _ _ (h d) (h a)))
theorem hq_w {f : Nat → Nat} (h : W32 f) (a b c d r s : Nat) : W32 (hq f a b c d r s) := q2_w (q1_w (q2_w (q1_w h _ _) _ _ _) _ _) _ _ _
theorem qr_w {f : Nat → Nat} (h : W32 f) (a b c d : Nat) : W32 (qr f a b c d) := hq_w (hq_w h _ _ _ _ _ _) _ _ _ _ _ _
end
section
open Go.RowKit T
theorem ty130 : RowTy 130 16 := ⟨⟨79, by kernel_rfl⟩, by kernel_rfl⟩
theorem q1_i (f : Nat → Nat) (a b : Nat) : ((f a : Int) + (f b : Int)) % 4294967296 = (add32 (f a) (f b) : Nat) := add_two (f a) (f b)
theorem x_i (f : Nat → Nat) (h : W32 f) (d a : Nat) : bits .xor .u32 (f d : Int) (f a : Int) = ((f d ^^^ f a : Nat) : Int) := u32_xor_nat _ _ (h d) (h a)
theorem ix16' {a : Nat} (h : a < 16) : (0 : Int) ≤ a ∧ (a : Int) < 16 := by omega
def q3 (f : Nat → Nat) (d r : Nat) : Nat → Nat := upd f d (rl (f d) r)
def qx (f : Nat → Nat) (d a : Nat) : Nat → Nat := upd f d (f d ^^^ f a)
theorem qx_w {f : Nat → Nat} (h : W32 f) (d a : Nat) : W32 (qx f d a) := h.upd d _ (xor32_lt _ _ (h d) (h a))
theorem q3_w {f : Nat → Nat} (h : W32 f) (d r : Nat) : W32 (q3 f d r) := h.upd d _ (rl_lt _ r (h d))
theorem q3_qx (f : Nat → Nat) (d a r : Nat) : q3 (qx f d a) d r = q2 f d a r := by
 funext j
 unfold q3 qx q2 upd
 by_cases e : j = d
 ·subst e; simp
 simp [e]
theorem row_upd (f : Nat → Nat) (i x : Nat) : rw_ 16 (upd f i x) = (rw_ 16 f).set i (x : Int) := (rw_set 16 f i x).symm
theorem rquarter_any (f : Nat → Nat) (a b c d : Nat) (hf : W32 f) (ha : a < 16) (hb : b < 16) (hc : c < 16) (hd : d < 16) (w : World) : Calls Tryz.prog 73 #[.agg (lk .u32 (rw_ 16 f)), .int .i64 (a : Int), .int .i64 (b : Int), .int .i64 (c : Int), .int .i64 (d : Int)] w fun e w' => e = .returned (.agg (lk .u32 (rw_ 16 (qr f a b c d)))) ∧ Below w.heap.size w w' := by
 obtain ⟨a1, a2⟩ := ix16' ha
 obtain ⟨b1, b2⟩ := ix16' hb
 obtain ⟨c1, c2⟩ := ix16' hc
 obtain ⟨d1, d2⟩ := ix16' hd
 replace hf := hDx hf
 go_enter Tryz.func73, Tryz.ntmps73
 have HK0 := hDx (KS.start w)
 go_upto_region 1 with (fail)
 have hm1 := ((HK0.out.made (.cells (lk .u32 (rw_ 16 f)) 130)).made (.cells ZRu32x16 130))
 try rw [show ((World.alloc w (.cells (lk .u32 (rw_ 16 f)) 130))).heap.size = w.heap.size + 1 by simp] at hm1
 obtain ⟨R, hgR⟩ := nm (w.heap.size + 1)
 obtain ⟨A, hgA⟩ := nm w.heap.size
 obtain ⟨ww1, hv1⟩ := nm (World.alloc (World.alloc w (.cells (lk .u32 (rw_ 16 f)) 130)) (.cells ZRu32x16 130))
 rw [← hv1, ← hgR, ← hgA] at hm1
 rw [← hv1]
 try rw [← hgR]
 try rw [← hgA]
 have HK1 : Hid (KS [(R, .cells (lk .u32 (zi 16)) 130), (A, .cells (lk .u32 (rw_ 16 f)) 130)] [] w ww1) := hDx hm1
 clear hm1 hv1 hgA hgR
 obtain ⟨f1, ef1⟩ := nm (q1 f a b)
 have hf1 : W32 f1 := by rw [ef1]; exact q1_w hf.out _ _
 replace hf1 := hDx hf1
 have c0 := (HK1.out.rk 1 rfl (rw_len' _ _)).cell a ha
 rw [rw_at' _ _ _ ha] at c0
 have c3 := (HK1.out.rk 1 rfl (rw_len' _ _)).cell b hb
 rw [rw_at' _ _ _ hb] at c3
 have k1 := q1_i f a b
 rw [← IntKind.wrap_u32'] at k1
 obtain ⟨X, hX⟩ := nm (add32 (f a) (f b))
 rw [← hX] at k1
 have es : rw_ 16 f1 = (rw_ 16 f).set a (X : Int) := by rw [ef1, hX]; exact row_upd _ _ _
 obtain ⟨A0, hA0⟩ := nm (f a)
 rw [← hA0] at c0 k1
 obtain ⟨A1, hA1⟩ := nm (f b)
 rw [← hA1] at c3 k1
 obtain ⟨V, hV⟩ := nm (rw_ 16 f)
 have lV : V.length = 16 := by rw [hV, rw_len']
 rw [← hV] at es HK1
 clear hV hX hA0 hA1
 have z0 := (HK1.out.rk 1 rfl lV).fz
 replace es := hDx es
 replace ef1 := hDx ef1
 go_still_tail 9, (by kernel_rfl)
 go_upto_region 2 with fail
 obtain ⟨ww2, hv2⟩ := nm (World.drew (World.setCell ww1 ⟨A, a, none⟩ (.int .u32 ((X : Int)))))
 have HK2 : Hid (KS [(R, .cells (lk .u32 (zi 16)) 130), (A, .cells (lk .u32 (V.set a (X : Int))) 130)] [] w ww2) := by rw [hv2]; exact hDx ((HK1.out.setK 1 rfl a ((X : Int))).drew)
 rw [← hv2]
 clear hv2
 rw [← es.out] at HK2
 clear es c0 k1 z0 lV c3
 obtain ⟨f2, ef2⟩ := nm (qx f1 d a)
 have hf2 : W32 f2 := by rw [ef2]; exact qx_w hf1.out _ _
 replace hf2 := hDx hf2
 have c0 := (HK2.out.rk 1 rfl (rw_len' _ _)).cell d hd
 rw [rw_at' _ _ _ hd] at c0
 have c3 := (HK2.out.rk 1 rfl (rw_len' _ _)).cell a ha
 rw [rw_at' _ _ _ ha] at c3
 have k1 := x_i f1 hf1.out d a
 obtain ⟨X, hX⟩ := nm (f1 d ^^^ f1 a)
 rw [← hX] at k1
 have es : rw_ 16 f2 = (rw_ 16 f1).set d (X : Int) := by rw [ef2, hX]; exact row_upd _ _ _
 obtain ⟨A0, hA0⟩ := nm (f1 d)
 rw [← hA0] at c0 k1
 obtain ⟨A1, hA1⟩ := nm (f1 a)
 rw [← hA1] at c3 k1
 obtain ⟨V, hV⟩ := nm (rw_ 16 f1)
 have lV : V.length = 16 := by rw [hV, rw_len']
 rw [← hV] at es HK2
 clear hV hX hA0 hA1
 have z0 := (HK2.out.rk 1 rfl lV).fz
 replace es := hDx es
 replace ef2 := hDx ef2
 go_still_tail 9, (by kernel_rfl)
 go_upto_region 3 with fail
 obtain ⟨ww3, hv3⟩ := nm (World.drew (World.setCell ww2 ⟨A, d, none⟩ (.int .u32 ((X : Int)))))
 have HK3 : Hid (KS [(R, .cells (lk .u32 (zi 16)) 130), (A, .cells (lk .u32 (V.set d (X : Int))) 130)] [] w ww3) := by rw [hv3]; exact hDx ((HK2.out.setK 1 rfl d ((X : Int))).drew)
 rw [← hv3]
 clear hv3
 rw [← es.out] at HK3
 clear es c0 k1 z0 lV c3
 obtain ⟨f3, ef3⟩ := nm (q3 f2 d 16)
 have hf3 : W32 f3 := by rw [ef3]; exact q3_w hf2.out _ _
 replace hf3 := hDx hf3
 have c0 := (HK3.out.rk 1 rfl (rw_len' _ _)).cell d hd
 rw [rw_at' _ _ _ hd] at c0
 have k1 := or_rotr' (f2 d) 16 (hf2.out d)
 simp only [Nat.reduceSub, Int.reducePow] at k1
 rw [← IntKind.wrap_u32'] at k1
 obtain ⟨X, hX⟩ := nm (rl (f2 d) 16)
 rw [show rotr (f2 d) 16 = X from hX.symm] at k1
 have es : rw_ 16 f3 = (rw_ 16 f2).set d (X : Int) := by rw [ef3, hX]; exact row_upd _ _ _
 obtain ⟨A0, hA0⟩ := nm (f2 d)
 rw [← hA0] at c0 k1
 obtain ⟨V, hV⟩ := nm (rw_ 16 f2)
 have lV : V.length = 16 := by rw [hV, rw_len']
 rw [← hV] at es HK3
 clear hV hX hA0
 have z0 := (HK3.out.rk 1 rfl lV).fz
 replace es := hDx es
 replace ef3 := hDx ef3
 go_still_tail 11, (by kernel_rfl)
 go_upto_region 4 with fail
 obtain ⟨ww4, hv4⟩ := nm (World.drew (World.setCell ww3 ⟨A, d, none⟩ (.int .u32 ((X : Int)))))
 have HK4 : Hid (KS [(R, .cells (lk .u32 (zi 16)) 130), (A, .cells (lk .u32 (V.set d (X : Int))) 130)] [] w ww4) := by rw [hv4]; exact hDx ((HK3.out.setK 1 rfl d ((X : Int))).drew)
 rw [← hv4]
 clear hv4
 rw [← es.out] at HK4
 clear es c0 k1 z0 lV
 obtain ⟨f4, ef4⟩ := nm (q1 f3 c d)
 have hf4 : W32 f4 := by rw [ef4]; exact q1_w hf3.out _ _
 replace hf4 := hDx hf4
 have c0 := (HK4.out.rk 1 rfl (rw_len' _ _)).cell c hc
 rw [rw_at' _ _ _ hc] at c0
 have c3 := (HK4.out.rk 1 rfl (rw_len' _ _)).cell d hd
 rw [rw_at' _ _ _ hd] at c3
 have k1 := q1_i f3 c d
 rw [← IntKind.wrap_u32'] at k1
 obtain ⟨X, hX⟩ := nm (add32 (f3 c) (f3 d))
 rw [← hX] at k1
 have es : rw_ 16 f4 = (rw_ 16 f3).set c (X : Int) := by rw [ef4, hX]; exact row_upd _ _ _
 obtain ⟨A0, hA0⟩ := nm (f3 c)
 rw [← hA0] at c0 k1
 obtain ⟨A1, hA1⟩ := nm (f3 d)
 rw [← hA1] at c3 k1
 obtain ⟨V, hV⟩ := nm (rw_ 16 f3)
 have lV : V.length = 16 := by rw [hV, rw_len']
 rw [← hV] at es HK4
 clear hV hX hA0 hA1
 have z0 := (HK4.out.rk 1 rfl lV).fz
 replace es := hDx es
 replace ef4 := hDx ef4
 go_still_tail 9, (by kernel_rfl)
 go_upto_region 5 with fail
 obtain ⟨ww5, hv5⟩ := nm (World.drew (World.setCell ww4 ⟨A, c, none⟩ (.int .u32 ((X : Int)))))
 have HK5 : Hid (KS [(R, .cells (lk .u32 (zi 16)) 130), (A, .cells (lk .u32 (V.set c (X : Int))) 130)] [] w ww5) := by rw [hv5]; exact hDx ((HK4.out.setK 1 rfl c ((X : Int))).drew)
 rw [← hv5]
 clear hv5
 rw [← es.out] at HK5
 clear es c0 k1 z0 lV c3
 obtain ⟨f5, ef5⟩ := nm (qx f4 b c)
 have hf5 : W32 f5 := by rw [ef5]; exact qx_w hf4.out _ _
 replace hf5 := hDx hf5
 have c0 := (HK5.out.rk 1 rfl (rw_len' _ _)).cell b hb
 rw [rw_at' _ _ _ hb] at c0
 have c3 := (HK5.out.rk 1 rfl (rw_len' _ _)).cell c hc
 rw [rw_at' _ _ _ hc] at c3
 have k1 := x_i f4 hf4.out b c
 obtain ⟨X, hX⟩ := nm (f4 b ^^^ f4 c)
 rw [← hX] at k1
 have es : rw_ 16 f5 = (rw_ 16 f4).set b (X : Int) := by rw [ef5, hX]; exact row_upd _ _ _
 obtain ⟨A0, hA0⟩ := nm (f4 b)
 rw [← hA0] at c0 k1
 obtain ⟨A1, hA1⟩ := nm (f4 c)
 rw [← hA1] at c3 k1
 obtain ⟨V, hV⟩ := nm (rw_ 16 f4)
 have lV : V.length = 16 := by rw [hV, rw_len']
 rw [← hV] at es HK5
 clear hV hX hA0 hA1
 have z0 := (HK5.out.rk 1 rfl lV).fz
 replace es := hDx es
 replace ef5 := hDx ef5
 go_still_tail 9, (by kernel_rfl)
 go_upto_region 6 with fail
 obtain ⟨ww6, hv6⟩ := nm (World.drew (World.setCell ww5 ⟨A, b, none⟩ (.int .u32 ((X : Int)))))
 have HK6 : Hid (KS [(R, .cells (lk .u32 (zi 16)) 130), (A, .cells (lk .u32 (V.set b (X : Int))) 130)] [] w ww6) := by rw [hv6]; exact hDx ((HK5.out.setK 1 rfl b ((X : Int))).drew)
 rw [← hv6]
 clear hv6
 rw [← es.out] at HK6
 clear es c0 k1 z0 lV c3
 obtain ⟨f6, ef6⟩ := nm (q3 f5 b 12)
 have hf6 : W32 f6 := by rw [ef6]; exact q3_w hf5.out _ _
 replace hf6 := hDx hf6
 have c0 := (HK6.out.rk 1 rfl (rw_len' _ _)).cell b hb
 rw [rw_at' _ _ _ hb] at c0
 have k1 := or_rotr' (f5 b) 20 (hf5.out b)
 simp only [Nat.reduceSub, Int.reducePow] at k1
 rw [← IntKind.wrap_u32'] at k1
 obtain ⟨X, hX⟩ := nm (rl (f5 b) 12)
 rw [show rotr (f5 b) 20 = X from hX.symm] at k1
 have es : rw_ 16 f6 = (rw_ 16 f5).set b (X : Int) := by rw [ef6, hX]; exact row_upd _ _ _
 obtain ⟨A0, hA0⟩ := nm (f5 b)
 rw [← hA0] at c0 k1
 obtain ⟨V, hV⟩ := nm (rw_ 16 f5)
 have lV : V.length = 16 := by rw [hV, rw_len']
 rw [← hV] at es HK6
 clear hV hX hA0
 have z0 := (HK6.out.rk 1 rfl lV).fz
 replace es := hDx es
 replace ef6 := hDx ef6
 go_still_tail 11, (by kernel_rfl)
 go_upto_region 7 with fail
 obtain ⟨ww7, hv7⟩ := nm (World.drew (World.setCell ww6 ⟨A, b, none⟩ (.int .u32 ((X : Int)))))
 have HK7 : Hid (KS [(R, .cells (lk .u32 (zi 16)) 130), (A, .cells (lk .u32 (V.set b (X : Int))) 130)] [] w ww7) := by rw [hv7]; exact hDx ((HK6.out.setK 1 rfl b ((X : Int))).drew)
 rw [← hv7]
 clear hv7
 rw [← es.out] at HK7
 clear es c0 k1 z0 lV
 obtain ⟨f7, ef7⟩ := nm (q1 f6 a b)
 have hf7 : W32 f7 := by rw [ef7]; exact q1_w hf6.out _ _
 replace hf7 := hDx hf7
 have c0 := (HK7.out.rk 1 rfl (rw_len' _ _)).cell a ha
 rw [rw_at' _ _ _ ha] at c0
 have c3 := (HK7.out.rk 1 rfl (rw_len' _ _)).cell b hb
 rw [rw_at' _ _ _ hb] at c3
 have k1 := q1_i f6 a b
 rw [← IntKind.wrap_u32'] at k1
 obtain ⟨X, hX⟩ := nm (add32 (f6 a) (f6 b))
 rw [← hX] at k1
 have es : rw_ 16 f7 = (rw_ 16 f6).set a (X : Int) := by rw [ef7, hX]; exact row_upd _ _ _
 obtain ⟨A0, hA0⟩ := nm (f6 a)
 rw [← hA0] at c0 k1
 obtain ⟨A1, hA1⟩ := nm (f6 b)
 rw [← hA1] at c3 k1
 obtain ⟨V, hV⟩ := nm (rw_ 16 f6)
 have lV : V.length = 16 := by rw [hV, rw_len']
 rw [← hV] at es HK7
 clear hV hX hA0 hA1
 have z0 := (HK7.out.rk 1 rfl lV).fz
 replace es := hDx es
 replace ef7 := hDx ef7
 go_still_tail 9, (by kernel_rfl)
 go_upto_region 8 with fail
 obtain ⟨ww8, hv8⟩ := nm (World.drew (World.setCell ww7 ⟨A, a, none⟩ (.int .u32 ((X : Int)))))
 have HK8 : Hid (KS [(R, .cells (lk .u32 (zi 16)) 130), (A, .cells (lk .u32 (V.set a (X : Int))) 130)] [] w ww8) := by rw [hv8]; exact hDx ((HK7.out.setK 1 rfl a ((X : Int))).drew)
 rw [← hv8]
 clear hv8
 rw [← es.out] at HK8
 clear es c0 k1 z0 lV c3
 obtain ⟨f8, ef8⟩ := nm (qx f7 d a)
 have hf8 : W32 f8 := by rw [ef8]; exact qx_w hf7.out _ _
 replace hf8 := hDx hf8
 have c0 := (HK8.out.rk 1 rfl (rw_len' _ _)).cell d hd
 rw [rw_at' _ _ _ hd] at c0
 have c3 := (HK8.out.rk 1 rfl (rw_len' _ _)).cell a ha
 rw [rw_at' _ _ _ ha] at c3
 have k1 := x_i f7 hf7.out d a
 obtain ⟨X, hX⟩ := nm (f7 d ^^^ f7 a)
 rw [← hX] at k1
 have es : rw_ 16 f8 = (rw_ 16 f7).set d (X : Int) := by rw [ef8, hX]; exact row_upd _ _ _
 obtain ⟨A0, hA0⟩ := nm (f7 d)
 rw [← hA0] at c0 k1
 obtain ⟨A1, hA1⟩ := nm (f7 a)
 rw [← hA1] at c3 k1
 obtain ⟨V, hV⟩ := nm (rw_ 16 f7)
 have lV : V.length = 16 := by rw [hV, rw_len']
 rw [← hV] at es HK8
 clear hV hX hA0 hA1
 have z0 := (HK8.out.rk 1 rfl lV).fz
 replace es := hDx es
 replace ef8 := hDx ef8
 go_still_tail 9, (by kernel_rfl)
 go_upto_region 9 with fail
 obtain ⟨ww9, hv9⟩ := nm (World.drew (World.setCell ww8 ⟨A, d, none⟩ (.int .u32 ((X : Int)))))
 have HK9 : Hid (KS [(R, .cells (lk .u32 (zi 16)) 130), (A, .cells (lk .u32 (V.set d (X : Int))) 130)] [] w ww9) := by rw [hv9]; exact hDx ((HK8.out.setK 1 rfl d ((X : Int))).drew)
 rw [← hv9]
 clear hv9
 rw [← es.out] at HK9
 clear es c0 k1 z0 lV c3
 obtain ⟨f9, ef9⟩ := nm (q3 f8 d 8)
 have hf9 : W32 f9 := by rw [ef9]; exact q3_w hf8.out _ _
 replace hf9 := hDx hf9
 have c0 := (HK9.out.rk 1 rfl (rw_len' _ _)).cell d hd
 rw [rw_at' _ _ _ hd] at c0
 have k1 := or_rotr' (f8 d) 24 (hf8.out d)
 simp only [Nat.reduceSub, Int.reducePow] at k1
 rw [← IntKind.wrap_u32'] at k1
 obtain ⟨X, hX⟩ := nm (rl (f8 d) 8)
 rw [show rotr (f8 d) 24 = X from hX.symm] at k1
 have es : rw_ 16 f9 = (rw_ 16 f8).set d (X : Int) := by rw [ef9, hX]; exact row_upd _ _ _
 obtain ⟨A0, hA0⟩ := nm (f8 d)
 rw [← hA0] at c0 k1
 obtain ⟨V, hV⟩ := nm (rw_ 16 f8)
 have lV : V.length = 16 := by rw [hV, rw_len']
 rw [← hV] at es HK9
 clear hV hX hA0
 have z0 := (HK9.out.rk 1 rfl lV).fz
 replace es := hDx es
 replace ef9 := hDx ef9
 go_still_tail 11, (by kernel_rfl)
 go_upto_region 10 with fail
 obtain ⟨ww10, hv10⟩ := nm (World.drew (World.setCell ww9 ⟨A, d, none⟩ (.int .u32 ((X : Int)))))
 have HK10 : Hid (KS [(R, .cells (lk .u32 (zi 16)) 130), (A, .cells (lk .u32 (V.set d (X : Int))) 130)] [] w ww10) := by rw [hv10]; exact hDx ((HK9.out.setK 1 rfl d ((X : Int))).drew)
 rw [← hv10]
 clear hv10
 rw [← es.out] at HK10
 clear es c0 k1 z0 lV
 obtain ⟨f10, ef10⟩ := nm (q1 f9 c d)
 have hf10 : W32 f10 := by rw [ef10]; exact q1_w hf9.out _ _
 replace hf10 := hDx hf10
 have c0 := (HK10.out.rk 1 rfl (rw_len' _ _)).cell c hc
 rw [rw_at' _ _ _ hc] at c0
 have c3 := (HK10.out.rk 1 rfl (rw_len' _ _)).cell d hd
 rw [rw_at' _ _ _ hd] at c3
 have k1 := q1_i f9 c d
 rw [← IntKind.wrap_u32'] at k1
 obtain ⟨X, hX⟩ := nm (add32 (f9 c) (f9 d))
 rw [← hX] at k1
 have es : rw_ 16 f10 = (rw_ 16 f9).set c (X : Int) := by rw [ef10, hX]; exact row_upd _ _ _
 obtain ⟨A0, hA0⟩ := nm (f9 c)
 rw [← hA0] at c0 k1
 obtain ⟨A1, hA1⟩ := nm (f9 d)
 rw [← hA1] at c3 k1
 obtain ⟨V, hV⟩ := nm (rw_ 16 f9)
 have lV : V.length = 16 := by rw [hV, rw_len']
 rw [← hV] at es HK10
 clear hV hX hA0 hA1
 have z0 := (HK10.out.rk 1 rfl lV).fz
 replace es := hDx es
 replace ef10 := hDx ef10
 go_still_tail 9, (by kernel_rfl)
 go_upto_region 11 with fail
 obtain ⟨ww11, hv11⟩ := nm (World.drew (World.setCell ww10 ⟨A, c, none⟩ (.int .u32 ((X : Int)))))
 have HK11 : Hid (KS [(R, .cells (lk .u32 (zi 16)) 130), (A, .cells (lk .u32 (V.set c (X : Int))) 130)] [] w ww11) := by rw [hv11]; exact hDx ((HK10.out.setK 1 rfl c ((X : Int))).drew)
 rw [← hv11]
 clear hv11
 rw [← es.out] at HK11
 clear es c0 k1 z0 lV c3
 obtain ⟨f11, ef11⟩ := nm (qx f10 b c)
 have hf11 : W32 f11 := by rw [ef11]; exact qx_w hf10.out _ _
 replace hf11 := hDx hf11
 have c0 := (HK11.out.rk 1 rfl (rw_len' _ _)).cell b hb
 rw [rw_at' _ _ _ hb] at c0
 have c3 := (HK11.out.rk 1 rfl (rw_len' _ _)).cell c hc
 rw [rw_at' _ _ _ hc] at c3
 have k1 := x_i f10 hf10.out b c
 obtain ⟨X, hX⟩ := nm (f10 b ^^^ f10 c)
 rw [← hX] at k1
 have es : rw_ 16 f11 = (rw_ 16 f10).set b (X : Int) := by rw [ef11, hX]; exact row_upd _ _ _
 obtain ⟨A0, hA0⟩ := nm (f10 b)
 rw [← hA0] at c0 k1
 obtain ⟨A1, hA1⟩ := nm (f10 c)
 rw [← hA1] at c3 k1
 obtain ⟨V, hV⟩ := nm (rw_ 16 f10)
 have lV : V.length = 16 := by rw [hV, rw_len']
 rw [← hV] at es HK11
 clear hV hX hA0 hA1
 have z0 := (HK11.out.rk 1 rfl lV).fz
 replace es := hDx es
 replace ef11 := hDx ef11
 go_still_tail 9, (by kernel_rfl)
 go_upto_region 12 with fail
 obtain ⟨ww12, hv12⟩ := nm (World.drew (World.setCell ww11 ⟨A, b, none⟩ (.int .u32 ((X : Int)))))
 have HK12 : Hid (KS [(R, .cells (lk .u32 (zi 16)) 130), (A, .cells (lk .u32 (V.set b (X : Int))) 130)] [] w ww12) := by rw [hv12]; exact hDx ((HK11.out.setK 1 rfl b ((X : Int))).drew)
 rw [← hv12]
 clear hv12
 rw [← es.out] at HK12
 clear es c0 k1 z0 lV c3
 obtain ⟨f12, ef12⟩ := nm (q3 f11 b 7)
 have hf12 : W32 f12 := by rw [ef12]; exact q3_w hf11.out _ _
 replace hf12 := hDx hf12
 have c0 := (HK12.out.rk 1 rfl (rw_len' _ _)).cell b hb
 rw [rw_at' _ _ _ hb] at c0
 have k1 := or_rotr' (f11 b) 25 (hf11.out b)
 simp only [Nat.reduceSub, Int.reducePow] at k1
 rw [← IntKind.wrap_u32'] at k1
 obtain ⟨X, hX⟩ := nm (rl (f11 b) 7)
 rw [show rotr (f11 b) 25 = X from hX.symm] at k1
 have es : rw_ 16 f12 = (rw_ 16 f11).set b (X : Int) := by rw [ef12, hX]; exact row_upd _ _ _
 obtain ⟨A0, hA0⟩ := nm (f11 b)
 rw [← hA0] at c0 k1
 obtain ⟨V, hV⟩ := nm (rw_ 16 f11)
 have lV : V.length = 16 := by rw [hV, rw_len']
 rw [← hV] at es HK12
 clear hV hX hA0
 have z0 := (HK12.out.rk 1 rfl lV).fz
 replace es := hDx es
 replace ef12 := hDx ef12
 go_still_tail 11, (by kernel_rfl)
 go_upto_region 13 with fail
 obtain ⟨ww13, hv13⟩ := nm (World.drew (World.setCell ww12 ⟨A, b, none⟩ (.int .u32 ((X : Int)))))
 have HK13 : Hid (KS [(R, .cells (lk .u32 (zi 16)) 130), (A, .cells (lk .u32 (V.set b (X : Int))) 130)] [] w ww13) := by rw [hv13]; exact hDx ((HK12.out.setK 1 rfl b ((X : Int))).drew)
 rw [← hv13]
 clear hv13
 rw [← es.out] at HK13
 clear es c0 k1 z0 lV
 have e : f12 = qr f a b c d := by
  rw [ef12.out, ef11.out, ef10.out, ef9.out, ef8.out, ef7.out, ef6.out, ef5.out, ef4.out, ef3.out, ef2.out, ef1.out]
  rw [q3_qx, q3_qx, q3_qx, q3_qx]
  rfl
 rw [e] at HK13
 have FA := (HK13.out.rk 1 rfl (rw_len' _ _))
 have FR := (HK13.out.rk 0 rfl (zi_len 16))
 go_wp2_with (first | (refine wpList_load_rk rfl _ rfl rfl FA ty130 ?_) | (refine wpList_store_rk rfl _ _ rfl rfl rfl FR ty130 (rw_len' _ _) ?_))
 have KE := HK13.out.setRow 0 rfl (lk .u32 (rw_ 16 (qr f a b c d)))
 try simp only [Exit.inBlock, Exit.then]
 refine bodyPost_ret (results_rk (p := 10) (by kernel_rfl) (by rfl) (KE.rk 0 rfl (rw_len' _ _)) ty130) rfl ?_
 exact ⟨rfl, KE.below⟩
end
section
open Go.RowKit T
theorem KS.startX (w : World) {g : Nat} {o : Obj} (h : w.heap[g]? = some o) : KS [(g, o)] [g] w w :=
 ⟨fun x hx => by simp at hx; subst hx; exact h, by simp, fun x hx => by simp at hx; subst hx; exact Or.inl (by simp), rfl, rfl, rfl, Nat.le_refl _, fun _ _ _ => rfl⟩
theorem KS.only {L : List (Nat × Obj)} {w u : World} {g : Nat} (h : KS L [g] w u) : Only g w u := ⟨h.os, h.tape, h.output, h.size, fun j hj hb => h.old j hj (by simpa using hb)⟩
theorem KS.callT {L : List (Nat × Obj)} {X : List Nat} {w u u' : World} (h : KS L X w u) (j : Nat) {g : Nat} {o o' : Obj} (e : L[j]? = some (g, o)) (hb : Only g u u') (hg : u'.heap[g]? = some o') : KS (L.set j (g, o')) X w u' := by
 have hj : j < L.length := (List.getElem?_eq_some_iff.1 e).1
 have he : L[j] = (g, o) := (List.getElem?_eq_some_iff.1 e).2
 have hp := List.pairwise_iff_getElem.1 h.ne
 have hfst : ∀ i (hi : i < L.length), ((L.set j (g, o'))[i]'(by rw [List.length_set]; exact hi)).1 = (L[i]'hi).1 := by
  intro i hi
  rw [List.getElem_set]
  split
  ·rename_i hji; subst hji; rw [he]
  ·rfl
 refine ⟨fun x hx => ?_, ?_, fun x hx => ?_, hb.os.trans h.os, hb.tape.trans h.tape, hb.output.trans h.output, Nat.le_trans h.size hb.size, fun i hi hX => ?_⟩
 ·obtain ⟨i, hi, rfl⟩ := List.mem_iff_getElem.1 hx
  have hi' : i < L.length := by rw [List.length_set] at hi; exact hi
  rw [List.getElem_set]
  split
  ·exact hg
  rename_i hji
  have hne : (L[i]'hi').1 ≠ g := by
   intro hh
   rcases Nat.lt_or_ge i j with hlt | hge
   ·exact hp i j hi' hj hlt (by rw [hh, he])
   ·exact hp j i hj hi' (by omega) (by rw [hh, he])
  have hx2 := h.all _ (List.getElem_mem hi')
  rw [hb.block _ (lt_heap hx2) hne]
  exact hx2
 ·rw [List.pairwise_iff_getElem]
  intro a b ha hb2 hab
  have ha' : a < L.length := by rw [List.length_set] at ha; exact ha
  have hb' : b < L.length := by rw [List.length_set] at hb2; exact hb2
  rw [hfst a ha', hfst b hb']
  exact hp a b ha' hb' hab
 ·obtain ⟨i, hi, rfl⟩ := List.mem_iff_getElem.1 hx
  have hi' : i < L.length := by rw [List.length_set] at hi; exact hi
  rw [hfst i hi']
  exact h.ge _ (List.getElem_mem hi')
 have hne : i ≠ g := by
  intro hh
  subst hh
  rcases h.mem j e with hm | hm
  ·exact hX hm
  ·omega
 rw [hb.block i (Nat.lt_of_lt_of_le hi h.size) hne]
 exact h.old i hi hX
def rF (k : Nat) : Nat := if k = 0 then 16 else 8
def sF (k : Nat) : Nat := if k = 0 then 12 else 7
def hK (f : Nat → Nat) (a b c d : Nat) : Nat → Nat → Nat
 | 0 => f
 | k + 1 => hq (hK f a b c d k) a b c d (rF k) (sF k)
theorem hK_w {f : Nat → Nat} (h : W32 f) (a b c d : Nat) : ∀ k, W32 (hK f a b c d k)
 | 0 => h
 | k + 1 => hq_w (hK_w h a b c d k) _ _ _ _ _ _
theorem hK_two (f : Nat → Nat) (a b c d : Nat) : hK f a b c d 2 = qr f a b c d := rfl
theorem rs_any (k : Nat) (hk : k < 2) : ∃ r s : Nat, r = rF k ∧ s = sF k ∧ (r = 16 ∨ r = 12 ∨ r = 8 ∨ r = 7) ∧ (s = 16 ∨ s = 12 ∨ s = 8 ∨ s = 7) ∧
  ∀ w, (Instr.index 201 (.agg #[.int .i64 16, .int .i64 12, .int .i64 8, .int .i64 7]) (.int .i64 (k : Int))).run Tryz.prog w = .ok (.agg (lk .i64 [(r : Int), (s : Int)])) w := by
 rcases (show k = 0 ∨ k = 1 by omega) with rfl | rfl
 ·exact ⟨16, 12, rfl, rfl, by decide, by decide, fun w => by rfl⟩
 exact ⟨8, 7, rfl, rfl, by decide, by decide, fun w => by rfl⟩
theorem ty200 : RowTy 200 2 := ⟨⟨3, by kernel_rfl⟩, by kernel_rfl⟩
theorem quarter_any (f : Nat → Nat) (g a b c d : Nat) (w : World) (hf : W32 f) (ha : a < 16) (hb : b < 16) (hc : c < 16) (hd : d < 16) (hg : w.heap[g]? = some (.cells (lk .u32 (rw_ 16 f)) 186)) :
  Calls Tryz.prog 116 #[.pointer (some ⟨g, 0, none⟩), .int .i64 (a : Int), .int .i64 (b : Int), .int .i64 (c : Int), .int .i64 (d : Int)] w fun e w' => e = .returned (.tuple #[]) ∧ w'.heap[g]? = some (.cells (lk .u32 (rw_ 16 (qr f a b c d))) 186) ∧ Only g w w' := by
 obtain ⟨a1, a2⟩ := ix16' ha
 obtain ⟨b1, b2⟩ := ix16' hb
 obtain ⟨c1, c2⟩ := ix16' hc
 obtain ⟨d1, d2⟩ := ix16' hd
 replace hf := hDx hf
 have HK0 : Hid (KS [(g, .cells (lk .u32 (rw_ 16 (hK f a b c d 0))) 186)] [g] w w) := hDx (KS.startX w hg)
 clear hg
 go_enter Tryz.func116, Tryz.ntmps116
 go_upto_region 1 with (fail)
 go_loopw [15] (fun vS wr => ∃ k : Nat, k ≤ 2 ∧ vS = .int .i64 (k : Int) ∧ KS [(g, .cells (lk .u32 (rw_ 16 (hK f a b c d k))) 186)] [g] w wr) (fun vS _ => 2 - (intOf vS).toNat)
 case atStart => exact ⟨0, Nat.zero_le _, rfl, HK0.out⟩
 obtain ⟨k, hk, rfl, HK⟩ := hrel
 have HK1 := hDx HK
 clear HK
 by_cases hlt : k < 2
 ·have hk1 : (0 : Int) ≤ k := by omega
  have hk2 : (k : Int) < 2 := by omega
  obtain ⟨hk3, hk4⟩ := i64w (x := (k : Int) + 1) (n := k + 1) (by omega) (by omega)
  obtain ⟨r, s, hr, hs, hr4, hs4, hix⟩ := rs_any k hlt
  have hix2 := hix wr
  obtain ⟨F, hF⟩ := nm (hK f a b c d k)
  have hFw : W32 F := by rw [hF]; exact hK_w hf.out a b c d k
  have hS : hK f a b c d (k + 1) = hq F a b c d r s := by rw [hF, hr, hs]; rfl
  rw [← hF] at HK1
  replace hFw := hDx hFw
  replace hS := hDx hS
  replace hr4 := hDx hr4
  replace hs4 := hDx hs4
  replace hlt := hDx hlt
  clear hF hr hs hix
  have FH2 := rk_new wr 200 2 .i64 (zi 2) (zi_len 2)
  go_upto_region 3 with (refine wpList_store_rk rfl _ _ rfl rfl rfl FH2 ty200 (show [(r : Int), (s : Int)].length = 2 from rfl) ?_)
  have hm2 := (HK1.out.made (.cells #[.int .i64 0, .int .i64 0] 200)).setRow 0 rfl (lk .i64 ([(r : Int), (s : Int)]))
  obtain ⟨B, hgB⟩ := nm wr.heap.size
  obtain ⟨ww2, hv2⟩ := nm (World.setRow (World.alloc wr (.cells #[.int .i64 0, .int .i64 0] 200)) wr.heap.size (lk .i64 ([(r : Int), (s : Int)])))
  rw [← hv2, ← hgB] at hm2
  rw [← hv2]
  try rw [← hgB]
  have HK2 : Hid (KS [(B, .cells (lk .i64 ([(r : Int), (s : Int)])) 200), (g, .cells (lk .u32 (rw_ 16 F)) 186)] [g] w ww2) := hDx hm2
  clear hm2 hv2 hgB
  clear hix2
  obtain ⟨f1, ef1⟩ := nm (q1 F a b)
  have hf1 : W32 f1 := by rw [ef1]; exact q1_w hFw.out _ _
  have hf1w := hDx hf1
  clear hf1
  have c0 := (HK2.out.rk 1 rfl (rw_len' _ _)).cell a ha
  rw [rw_at' _ _ _ ha] at c0
  have c3 := (HK2.out.rk 1 rfl (rw_len' _ _)).cell b hb
  rw [rw_at' _ _ _ hb] at c3
  have k1 := q1_i F a b
  rw [← IntKind.wrap_u32'] at k1
  obtain ⟨X, hX⟩ := nm (add32 (F a) (F b))
  rw [← hX] at k1
  have es : rw_ 16 f1 = (rw_ 16 F).set a (X : Int) := by rw [ef1, hX]; exact row_upd _ _ _
  obtain ⟨A0, hA0⟩ := nm (F a)
  rw [← hA0] at c0 k1
  obtain ⟨A1, hA1⟩ := nm (F b)
  rw [← hA1] at c3 k1
  obtain ⟨V, hV⟩ := nm (rw_ 16 F)
  have lV : V.length = 16 := by rw [hV, rw_len']
  rw [← hV] at es HK2
  clear hV hX hA0 hA1
  have z0 := (HK2.out.rk 1 rfl lV).fz
  replace es := hDx es
  replace ef1 := hDx ef1
  go_still_tail 13, (by kernel_rfl)
  go_upto_region 4 with fail
  clear c0 c3 k1
  obtain ⟨ww3, hv3⟩ := nm (World.drew (World.setCell ww2 ⟨g, a, none⟩ (.int .u32 ((X : Int)))))
  have HK3 : Hid (KS [(B, .cells (lk .i64 ([(r : Int), (s : Int)])) 200), (g, .cells (lk .u32 (V.set a (X : Int))) 186)] [g] w ww3) := by rw [hv3]; exact hDx ((HK2.out.setK 1 rfl a ((X : Int))).drew)
  rw [← hv3]
  clear hv3
  rw [← es.out] at HK3
  clear es lV z0
  obtain ⟨f2, ef2⟩ := nm (q2 f1 d a r)
  have hf2 : W32 f2 := by rw [ef2]; exact q2_w hf1w.out _ _ _
  have hf2w := hDx hf2
  clear hf2
  obtain ⟨A0, hA0⟩ := nm (f1 d)
  obtain ⟨A1, hA1⟩ := nm (f1 a)
  have k1 := x_i f1 hf1w.out d a
  have b3 : A0 ^^^ A1 < 4294967296 := by rw [hA0, hA1]; exact xor32_lt _ _ (hf1w.out _) (hf1w.out _)
  rw [← hA0, ← hA1] at k1
  obtain ⟨Y, hY⟩ := nm (A0 ^^^ A1)
  rw [← hY] at k1 b3
  obtain ⟨X, hX⟩ := nm (rl Y r)
  replace hX := hDx hX
  replace b3 := hDx b3
  have es : rw_ 16 f2 = (rw_ 16 f1).set d (X : Int) := by rw [ef2, hX.out, hY, hA0, hA1]; exact row_upd _ _ _
  have a0 : ia (rw_ 16 f1) d = (A0 : Int) := by rw [rw_at' _ _ _ hd, hA0]
  have a1' : ia (rw_ 16 f1) a = (A1 : Int) := by rw [rw_at' _ _ _ ha, hA1]
  obtain ⟨V, hV⟩ := nm (rw_ 16 f1)
  have lV : V.length = 16 := by rw [hV, rw_len']
  rw [← hV] at es a0 a1' HK3
  clear hV hA0 hA1 hY
  replace es := hDx es
  replace ef2 := hDx ef2
  try simp only [Act.put, sAx, s0x, s1x]
  refine wp_region_cv 17 [31, 32, 33, 34, 35, 36, 37, 38, 39, 40, 41, 42, 43, 44, 45, 46, 47] [[], [], [], [], [33], [35, 34], [36], [], [], [38], [40, 39], [41], [37, 42], [], [44], [43, 45], [31]] [(31, .pointer (some ⟨g, 0, none⟩)), (32, .int .i64 (d : Int)), (33, .pointer (some ⟨g, 0, none⟩)), (34, .int .i64 (d : Int)), (35, .pointer (some ⟨g, 0, none⟩)), (36, .pointer (some ⟨g, d, none⟩)), (37, .int .u32 (A0 : Int)), (38, .pointer (some ⟨g, 0, none⟩)), (39, .int .i64 (a : Int)), (40, .pointer (some ⟨g, 0, none⟩)), (41, .pointer (some ⟨g, a, none⟩)), (42, .int .u32 (A1 : Int)), (43, .int .u32 (Y : Int)), (44, .pointer (some ⟨B, 0, none⟩)), (45, .int .i64 (r : Int)), (46, .int .u32 (X : Int)), (47, .pointer (some ⟨g, 0, none⟩))] rfl (by kernel_rfl) (by kernel_rfl) (by rfl) (by kernel_rfl) ?hO1 ?hE1
  case hO1 =>
   refine ⟨?_, ?_, ?_, ?_, ?_, ?_, ?_, ?_, ?_, ?_, ?_, ?_, ?_, ?_, ?_, ?_, ?_, trivial⟩
   ·intro act u HB HO HA
    have e0 := gE (x := .pointer (some ⟨g, 0, none⟩)) (HO 0 (by decide))
    refine calm_val 31 _ rfl ?_ rfl rfl
    clear HB HO HA
    go_simp
    try rfl
   ·intro act u HB HO HA
    have e4 := gE (x := .int .i64 (d : Int)) (HO 4 (by decide))
    refine calm_val 32 _ rfl ?_ rfl rfl
    clear HB HO HA
    go_simp
    try rfl
   ·intro act u HB HO HA
    have e0 := gE (x := .pointer (some ⟨g, 0, none⟩)) (HO 0 (by decide))
    refine calm_val 33 _ rfl ?_ rfl rfl
    clear HB HO HA
    go_simp
    try rfl
   ·intro act u HB HO HA
    have e4 := gE (x := .int .i64 (d : Int)) (HO 4 (by decide))
    refine calm_val 34 _ rfl ?_ rfl rfl
    clear HB HO HA
    go_simp
    try rfl
   ·intro act u HB HO HA
    have e33 : _ = _ := gE (qA HA 33)
    refine calm_val 35 _ rfl ?_ rfl rfl
    clear HB HO HA
    go_simp
    try rfl
   ·intro act u HB HO HA
    have e35 : _ = _ := gE (qA HA 35)
    have e34 : _ = _ := gE (qA HA 34)
    refine calm_val 36 _ rfl ?_ rfl rfl
    clear HB HO HA
    go_simp
    try rfl
   ·intro act u HB HO HA
    have e36 : _ = _ := gE (qA HA 36)
    have HS := HK3.out.drew.call HB
    have lT : u.cell? ⟨g, d, none⟩ = some (.int .u32 (A0 : Int)) := by
     have q := (HS.rk 1 rfl lV).cell d hd
     rw [a0] at q
     exact q
    refine calm_val 37 _ rfl ?_ rfl rfl
    clear HB HO HA HS
    go_simp
    try rfl
   ·intro act u HB HO HA
    have e0 := gE (x := .pointer (some ⟨g, 0, none⟩)) (HO 0 (by decide))
    refine calm_val 38 _ rfl ?_ rfl rfl
    clear HB HO HA
    go_simp
    try rfl
   ·intro act u HB HO HA
    have e1 := gE (x := .int .i64 (a : Int)) (HO 1 (by decide))
    refine calm_val 39 _ rfl ?_ rfl rfl
    clear HB HO HA
    go_simp
    try rfl
   ·intro act u HB HO HA
    have e38 : _ = _ := gE (qA HA 38)
    refine calm_val 40 _ rfl ?_ rfl rfl
    clear HB HO HA
    go_simp
    try rfl
   ·intro act u HB HO HA
    have e40 : _ = _ := gE (qA HA 40)
    have e39 : _ = _ := gE (qA HA 39)
    refine calm_val 41 _ rfl ?_ rfl rfl
    clear HB HO HA
    go_simp
    try rfl
   ·intro act u HB HO HA
    have e41 : _ = _ := gE (qA HA 41)
    have HS := HK3.out.drew.call HB
    have lT : u.cell? ⟨g, a, none⟩ = some (.int .u32 (A1 : Int)) := by
     have q := (HS.rk 1 rfl lV).cell a ha
     rw [a1'] at q
     exact q
    refine calm_val 42 _ rfl ?_ rfl rfl
    clear HB HO HA HS
    go_simp
    try rfl
   ·intro act u HB HO HA
    have e37 : _ = _ := gE (qA HA 37)
    have e42 : _ = _ := gE (qA HA 42)
    refine calm_val 43 _ rfl ?_ rfl rfl
    clear HB HO HA
    go_simp
    try rfl
   ·intro act u HB HO HA
    have e11 := gE (x := .pointer (some ⟨B, 0, none⟩)) (HO 11 (by decide))
    refine calm_val 44 _ rfl ?_ rfl rfl
    clear HB HO HA
    go_simp
    try rfl
   ·intro act u HB HO HA
    have e44 : _ = _ := gE (qA HA 44)
    have HS := HK3.out.drew.call HB
    have lT : u.cell? ⟨B, 0, none⟩ = some (.int .i64 (r : Int)) := by
     have q := (HS.rk 0 rfl (show [(r : Int), (s : Int)].length = 2 from rfl)).cell 0 (by decide)
     rw [show ia [(r : Int), (s : Int)] 0 = (r : Int) from rfl] at q
     exact q
    refine calm_val 45 _ rfl ?_ rfl rfl
    clear HB HO HA HS
    go_simp
    try rfl
   ·intro act u HB HO HA
    have e43 : _ = _ := qA HA 43
    have e45 : _ = _ := qA HA 45
    refine calm_call 46 #[.int .u32 (Y : Int), .int .i64 (r : Int)] rfl rfl ?_ (by kernel_rfl) (rotp_any Y r u b3.out hr4.out) ?_ rfl
    ·simp only [mTx, mCx, mNx, e43, e45]
     try rfl
    rintro e u1 ⟨rfl, rfl⟩
    exact ⟨_, rfl, by rw [← hX.out]; rfl, Below.refl _ _⟩
   intro act u HB HO HA
   have e31 : _ = _ := gE (qA HA 31)
   refine calm_val 47 _ rfl ?_ rfl rfl
   clear HB HO HA
   go_simp
   try rfl
  intro ww4 HB
  have HK4 := hDx (HK3.out.drew.call HB)
  simp only [fillL, Act.put, sAx, s0x, s1x, dSx, d0x]
  clear HB
  clear k1 a0 a1' b3 hX
  have z0 := (HK4.out.rk 1 rfl lV).fz
  have c0 := (HK4.out.rk 1 rfl lV).cell d hd
  go_upto_region 5 with fail
  obtain ⟨ww5, hv5⟩ := nm (World.setCell ww4 ⟨g, d, none⟩ (.int .u32 ((X : Int))))
  have HK5 : Hid (KS [(B, .cells (lk .i64 ([(r : Int), (s : Int)])) 200), (g, .cells (lk .u32 (V.set d (X : Int))) 186)] [g] w ww5) := by rw [hv5]; exact hDx (HK4.out.setK 1 rfl d ((X : Int)))
  rw [← hv5]
  clear hv5
  rw [← es.out] at HK5
  clear es lV z0 c0
  obtain ⟨f3, ef3⟩ := nm (q1 f2 c d)
  have hf3 : W32 f3 := by rw [ef3]; exact q1_w hf2w.out _ _
  have hf3w := hDx hf3
  clear hf3
  have c0 := (HK5.out.rk 1 rfl (rw_len' _ _)).cell c hc
  rw [rw_at' _ _ _ hc] at c0
  have c3 := (HK5.out.rk 1 rfl (rw_len' _ _)).cell d hd
  rw [rw_at' _ _ _ hd] at c3
  have k1 := q1_i f2 c d
  rw [← IntKind.wrap_u32'] at k1
  obtain ⟨X, hX⟩ := nm (add32 (f2 c) (f2 d))
  rw [← hX] at k1
  have es : rw_ 16 f3 = (rw_ 16 f2).set c (X : Int) := by rw [ef3, hX]; exact row_upd _ _ _
  obtain ⟨A0, hA0⟩ := nm (f2 c)
  rw [← hA0] at c0 k1
  obtain ⟨A1, hA1⟩ := nm (f2 d)
  rw [← hA1] at c3 k1
  obtain ⟨V, hV⟩ := nm (rw_ 16 f2)
  have lV : V.length = 16 := by rw [hV, rw_len']
  rw [← hV] at es HK5
  clear hV hX hA0 hA1
  have z0 := (HK5.out.rk 1 rfl lV).fz
  replace es := hDx es
  replace ef3 := hDx ef3
  go_still_tail 13, (by kernel_rfl)
  go_upto_region 6 with fail
  clear c0 c3 k1
  obtain ⟨ww6, hv6⟩ := nm (World.drew (World.setCell ww5 ⟨g, c, none⟩ (.int .u32 ((X : Int)))))
  have HK6 : Hid (KS [(B, .cells (lk .i64 ([(r : Int), (s : Int)])) 200), (g, .cells (lk .u32 (V.set c (X : Int))) 186)] [g] w ww6) := by rw [hv6]; exact hDx ((HK5.out.setK 1 rfl c ((X : Int))).drew)
  rw [← hv6]
  clear hv6
  rw [← es.out] at HK6
  clear es lV z0
  obtain ⟨f4, ef4⟩ := nm (q2 f3 b c s)
  have hf4 : W32 f4 := by rw [ef4]; exact q2_w hf3w.out _ _ _
  have hf4w := hDx hf4
  clear hf4
  obtain ⟨A0, hA0⟩ := nm (f3 b)
  obtain ⟨A1, hA1⟩ := nm (f3 c)
  have k1 := x_i f3 hf3w.out b c
  have b3 : A0 ^^^ A1 < 4294967296 := by rw [hA0, hA1]; exact xor32_lt _ _ (hf3w.out _) (hf3w.out _)
  rw [← hA0, ← hA1] at k1
  obtain ⟨Y, hY⟩ := nm (A0 ^^^ A1)
  rw [← hY] at k1 b3
  obtain ⟨X, hX⟩ := nm (rl Y s)
  replace hX := hDx hX
  replace b3 := hDx b3
  have es : rw_ 16 f4 = (rw_ 16 f3).set b (X : Int) := by rw [ef4, hX.out, hY, hA0, hA1]; exact row_upd _ _ _
  have a0 : ia (rw_ 16 f3) b = (A0 : Int) := by rw [rw_at' _ _ _ hb, hA0]
  have a1' : ia (rw_ 16 f3) c = (A1 : Int) := by rw [rw_at' _ _ _ hc, hA1]
  obtain ⟨V, hV⟩ := nm (rw_ 16 f3)
  have lV : V.length = 16 := by rw [hV, rw_len']
  rw [← hV] at es a0 a1' HK6
  clear hV hA0 hA1 hY
  replace es := hDx es
  replace ef4 := hDx ef4
  try simp only [Act.put, sAx, s0x, s1x]
  refine wp_region_cv 17 [62, 63, 64, 65, 66, 67, 68, 69, 70, 71, 72, 73, 74, 75, 76, 77, 78] [[], [], [], [], [64], [66, 65], [67], [], [], [69], [71, 70], [72], [68, 73], [], [75], [74, 76], [62]] [(62, .pointer (some ⟨g, 0, none⟩)), (63, .int .i64 (b : Int)), (64, .pointer (some ⟨g, 0, none⟩)), (65, .int .i64 (b : Int)), (66, .pointer (some ⟨g, 0, none⟩)), (67, .pointer (some ⟨g, b, none⟩)), (68, .int .u32 (A0 : Int)), (69, .pointer (some ⟨g, 0, none⟩)), (70, .int .i64 (c : Int)), (71, .pointer (some ⟨g, 0, none⟩)), (72, .pointer (some ⟨g, c, none⟩)), (73, .int .u32 (A1 : Int)), (74, .int .u32 (Y : Int)), (75, .pointer (some ⟨B, 1, none⟩)), (76, .int .i64 (s : Int)), (77, .int .u32 (X : Int)), (78, .pointer (some ⟨g, 0, none⟩))] rfl (by kernel_rfl) (by kernel_rfl) (by rfl) (by kernel_rfl) ?hO2 ?hE2
  case hO2 =>
   refine ⟨?_, ?_, ?_, ?_, ?_, ?_, ?_, ?_, ?_, ?_, ?_, ?_, ?_, ?_, ?_, ?_, ?_, trivial⟩
   ·intro act u HB HO HA
    have e0 := gE (x := .pointer (some ⟨g, 0, none⟩)) (HO 0 (by decide))
    refine calm_val 62 _ rfl ?_ rfl rfl
    clear HB HO HA
    go_simp
    try rfl
   ·intro act u HB HO HA
    have e2 := gE (x := .int .i64 (b : Int)) (HO 2 (by decide))
    refine calm_val 63 _ rfl ?_ rfl rfl
    clear HB HO HA
    go_simp
    try rfl
   ·intro act u HB HO HA
    have e0 := gE (x := .pointer (some ⟨g, 0, none⟩)) (HO 0 (by decide))
    refine calm_val 64 _ rfl ?_ rfl rfl
    clear HB HO HA
    go_simp
    try rfl
   ·intro act u HB HO HA
    have e2 := gE (x := .int .i64 (b : Int)) (HO 2 (by decide))
    refine calm_val 65 _ rfl ?_ rfl rfl
    clear HB HO HA
    go_simp
    try rfl
   ·intro act u HB HO HA
    have e64 : _ = _ := gE (qA HA 64)
    refine calm_val 66 _ rfl ?_ rfl rfl
    clear HB HO HA
    go_simp
    try rfl
   ·intro act u HB HO HA
    have e66 : _ = _ := gE (qA HA 66)
    have e65 : _ = _ := gE (qA HA 65)
    refine calm_val 67 _ rfl ?_ rfl rfl
    clear HB HO HA
    go_simp
    try rfl
   ·intro act u HB HO HA
    have e67 : _ = _ := gE (qA HA 67)
    have HS := HK6.out.drew.call HB
    have lT : u.cell? ⟨g, b, none⟩ = some (.int .u32 (A0 : Int)) := by
     have q := (HS.rk 1 rfl lV).cell b hb
     rw [a0] at q
     exact q
    refine calm_val 68 _ rfl ?_ rfl rfl
    clear HB HO HA HS
    go_simp
    try rfl
   ·intro act u HB HO HA
    have e0 := gE (x := .pointer (some ⟨g, 0, none⟩)) (HO 0 (by decide))
    refine calm_val 69 _ rfl ?_ rfl rfl
    clear HB HO HA
    go_simp
    try rfl
   ·intro act u HB HO HA
    have e3 := gE (x := .int .i64 (c : Int)) (HO 3 (by decide))
    refine calm_val 70 _ rfl ?_ rfl rfl
    clear HB HO HA
    go_simp
    try rfl
   ·intro act u HB HO HA
    have e69 : _ = _ := gE (qA HA 69)
    refine calm_val 71 _ rfl ?_ rfl rfl
    clear HB HO HA
    go_simp
    try rfl
   ·intro act u HB HO HA
    have e71 : _ = _ := gE (qA HA 71)
    have e70 : _ = _ := gE (qA HA 70)
    refine calm_val 72 _ rfl ?_ rfl rfl
    clear HB HO HA
    go_simp
    try rfl
   ·intro act u HB HO HA
    have e72 : _ = _ := gE (qA HA 72)
    have HS := HK6.out.drew.call HB
    have lT : u.cell? ⟨g, c, none⟩ = some (.int .u32 (A1 : Int)) := by
     have q := (HS.rk 1 rfl lV).cell c hc
     rw [a1'] at q
     exact q
    refine calm_val 73 _ rfl ?_ rfl rfl
    clear HB HO HA HS
    go_simp
    try rfl
   ·intro act u HB HO HA
    have e68 : _ = _ := gE (qA HA 68)
    have e73 : _ = _ := gE (qA HA 73)
    refine calm_val 74 _ rfl ?_ rfl rfl
    clear HB HO HA
    go_simp
    try rfl
   ·intro act u HB HO HA
    have e11 := gE (x := .pointer (some ⟨B, 0, none⟩)) (HO 11 (by decide))
    refine calm_val 75 _ rfl ?_ rfl rfl
    clear HB HO HA
    go_simp
    try rfl
   ·intro act u HB HO HA
    have e75 : _ = _ := gE (qA HA 75)
    have HS := HK6.out.drew.call HB
    have lT : u.cell? ⟨B, 1, none⟩ = some (.int .i64 (s : Int)) := by
     have q := (HS.rk 0 rfl (show [(r : Int), (s : Int)].length = 2 from rfl)).cell 1 (by decide)
     rw [show ia [(r : Int), (s : Int)] 1 = (s : Int) from rfl] at q
     exact q
    refine calm_val 76 _ rfl ?_ rfl rfl
    clear HB HO HA HS
    go_simp
    try rfl
   ·intro act u HB HO HA
    have e74 : _ = _ := qA HA 74
    have e76 : _ = _ := qA HA 76
    refine calm_call 77 #[.int .u32 (Y : Int), .int .i64 (s : Int)] rfl rfl ?_ (by kernel_rfl) (rotp_any Y s u b3.out hs4.out) ?_ rfl
    ·simp only [mTx, mCx, mNx, e74, e76]
     try rfl
    rintro e u1 ⟨rfl, rfl⟩
    exact ⟨_, rfl, by rw [← hX.out]; rfl, Below.refl _ _⟩
   intro act u HB HO HA
   have e62 : _ = _ := gE (qA HA 62)
   refine calm_val 78 _ rfl ?_ rfl rfl
   clear HB HO HA
   go_simp
   try rfl
  intro ww7 HB
  have HK7 := hDx (HK6.out.drew.call HB)
  simp only [fillL, Act.put, sAx, s0x, s1x, dSx, d0x]
  clear HB
  clear k1 a0 a1' b3 hX
  have z0 := (HK7.out.rk 1 rfl lV).fz
  have c0 := (HK7.out.rk 1 rfl lV).cell b hb
  go_upto_region 7 with fail
  obtain ⟨ww8, hv8⟩ := nm (World.setCell ww7 ⟨g, b, none⟩ (.int .u32 ((X : Int))))
  have HK8 : Hid (KS [(B, .cells (lk .i64 ([(r : Int), (s : Int)])) 200), (g, .cells (lk .u32 (V.set b (X : Int))) 186)] [g] w ww8) := by rw [hv8]; exact hDx (HK7.out.setK 1 rfl b ((X : Int)))
  rw [← hv8]
  clear hv8
  rw [← es.out] at HK8
  clear es lV z0 c0
  have e : f4 = hq F a b c d r s := by rw [ef4.out, ef3.out, ef2.out, ef1.out]; rfl
  rw [e, ← hS.out] at HK8
  go_wp2_with fail
  go_roundw
  case rel =>
   exact ⟨k + 1, hlt.out, by first | rfl | go_num, HK8.out.tail⟩
  exact measI 2 _ hlt.out
 obtain rfl : k = 2 := by omega
 try simp only [Int.cast_ofNat_Int]
 rw [hK_two] at HK1
 go_wp2_with fail
 go_end0
 exact ⟨rfl, HK1.out.get 0 rfl, HK1.out.only⟩
end
section
open Go.RowKit T
theorem run_bin {P : Program} {o : Oper} {a : Act} {w : World} {t t2 : TypeId} {x y : Operand} {k : IntKind} {X : Int} {Y v : Value} {b : BinOp} (ho : o.op = .binOp b t x y t2) (hx : a.eval x = .int k X) (hy : a.eval y = Y) (hv : binOp b t (.int k X) Y = pure v) : (execOp a.eval o).run P w = .ok (.value v) w := by
 unfold execOp
 simp only [ho, hx, hy, eqGuard_at_int, hv]
 rfl
theorem run_shift {P : Program} {o : Oper} {a : Act} {w : World} {t t2 : TypeId} {x y : Operand} {k yk : IntKind} {X Y : Int} {v : Value} {b : BinOp} (ho : o.op = .binOp b t x y t2) (hx : a.eval x = .int k X) (hy : a.eval y = .int yk Y) (hb : b = .shr ∨ b = .shl) (hv : Op.shift b k X yk Y = pure v) : (execOp a.eval o).run P w = .ok (.value v) w := by
 rcases hb with rfl | rfl
 ·unfold execOp
  simp only [ho, hx, hy, eqGuard_at_int, binOp_shr, hv]
  rfl
 unfold execOp
 simp only [ho, hx, hy, eqGuard_at_int, binOp_shl, hv]
 rfl
def wW (s : ByteArray) (i j : Nat) : Nat := vs 256 (fun r => if 4 * j + r < i then bt s (4 * j + r) else 0) 4
theorem wW_w (s : ByteArray) (i : Nat) : W32 (wW s i) := fun j => by
 have := vs_lt (b := 256) (f := fun r => if 4 * j + r < i then bt s (4 * j + r) else 0) (by decide) 4 (fun r _ => by
  have := bt_lt s (4 * j + r)
  split <;> omega)
 exact this
theorem wW_zero (s : ByteArray) : wW s 0 = fun _ => 0 := by
 funext j
 exact (vs_ext (b := 256) (g := fun _ => 0) 4 (fun r _ => if_neg (by omega))).trans (by simp [vs])
theorem wW_four (s : ByteArray) (i j : Nat) : wW s i j = (if 4 * j + 0 < i then bt s (4 * j + 0) else 0) + (if 4 * j + 1 < i then bt s (4 * j + 1) else 0) * 256 + (if 4 * j + 2 < i then bt s (4 * j + 2) else 0) * 65536 + (if 4 * j + 3 < i then bt s (4 * j + 3) else 0) * 16777216 := by
 unfold wW
 simp only [vs, Nat.reducePow, Nat.zero_add, Nat.mul_one]
theorem wW_or (s : ByteArray) (q m : Nat) (hm : m < 4) : wW s (4 * q + m) q ||| bt s (4 * q + m) * 2 ^ (8 * m) = wW s (4 * q + m + 1) q ∧ bt s (4 * q + m) * 2 ^ (8 * m) < 4294967296 := by
 have b0 := bt_lt s (4 * q + 0)
 have b1 := bt_lt s (4 * q + 1)
 have b2 := bt_lt s (4 * q + 2)
 have b3 := bt_lt s (4 * q + 3)
 have key : ∀ a b e : Nat, a < 2 ^ e → a ||| b * 2 ^ e = a + b * 2 ^ e := fun a b e h => by
  rw [Nat.or_comm, Nat.mul_comm b, ← Nat.two_pow_add_eq_or_of_lt h, Nat.add_comm]
 rw [wW_four, wW_four]
 rcases (show m = 0 ∨ m = 1 ∨ m = 2 ∨ m = 3 by omega) with rfl | rfl | rfl | rfl
 all_goals
  simp only [show ¬ (4 * q + 0 < 4 * q + 0) by omega, show ¬ (4 * q + 1 < 4 * q + 0) by omega, show ¬ (4 * q + 2 < 4 * q + 0) by omega, show ¬ (4 * q + 3 < 4 * q + 0) by omega, show (4 * q + 0 < 4 * q + 0 + 1) by omega, show ¬ (4 * q + 1 < 4 * q + 0 + 1) by omega, show ¬ (4 * q + 2 < 4 * q + 0 + 1) by omega, show ¬ (4 * q + 3 < 4 * q + 0 + 1) by omega,
   show (4 * q + 0 < 4 * q + 1) by omega, show ¬ (4 * q + 1 < 4 * q + 1) by omega, show ¬ (4 * q + 2 < 4 * q + 1) by omega, show ¬ (4 * q + 3 < 4 * q + 1) by omega, show (4 * q + 0 < 4 * q + 1 + 1) by omega, show (4 * q + 1 < 4 * q + 1 + 1) by omega, show ¬ (4 * q + 2 < 4 * q + 1 + 1) by omega, show ¬ (4 * q + 3 < 4 * q + 1 + 1) by omega,
   show (4 * q + 0 < 4 * q + 2) by omega, show (4 * q + 1 < 4 * q + 2) by omega, show ¬ (4 * q + 2 < 4 * q + 2) by omega, show ¬ (4 * q + 3 < 4 * q + 2) by omega, show (4 * q + 0 < 4 * q + 2 + 1) by omega, show (4 * q + 1 < 4 * q + 2 + 1) by omega, show (4 * q + 2 < 4 * q + 2 + 1) by omega, show ¬ (4 * q + 3 < 4 * q + 2 + 1) by omega,
   show (4 * q + 0 < 4 * q + 3) by omega, show (4 * q + 1 < 4 * q + 3) by omega, show (4 * q + 2 < 4 * q + 3) by omega, show ¬ (4 * q + 3 < 4 * q + 3) by omega, show (4 * q + 0 < 4 * q + 3 + 1) by omega, show (4 * q + 1 < 4 * q + 3 + 1) by omega, show (4 * q + 2 < 4 * q + 3 + 1) by omega, show (4 * q + 3 < 4 * q + 3 + 1) by omega, if_true, if_false]
 ·rw [key _ _ _ (by decide)]
  simp only [Nat.reduceMul, Nat.reducePow]
  omega
 ·rw [key _ _ _ (by simp only [Nat.reduceMul, Nat.reducePow]; omega)]
  simp only [Nat.reduceMul, Nat.reducePow]
  omega
 ·rw [key _ _ _ (by simp only [Nat.reduceMul, Nat.reducePow]; omega)]
  simp only [Nat.reduceMul, Nat.reducePow]
  omega
 rw [key _ _ _ (by simp only [Nat.reduceMul, Nat.reducePow]; omega)]
 simp only [Nat.reduceMul, Nat.reducePow]
 omega
theorem wW_upd (s : ByteArray) (i q : Nat) (hq : i / 4 = q) : upd (wW s i) q (wW s (i + 1) q) = wW s (i + 1) := by
 funext j
 unfold upd
 by_cases e : j = q
 ·subst e; rw [if_pos rfl]
 rw [if_neg e]
 unfold wW
 refine vs_ext 4 fun r hr => ?_
 by_cases h : 4 * j + r < i
 ·rw [if_pos h, if_pos (by omega)]
 rw [if_neg h, if_neg (by omega)]
def i1 (y : Nat → Nat) : Nat → Nat → Nat
 | 0 => y
 | k + 1 => qr (i1 y k) k (4 + k) (8 + k) (12 + k)
def i2 (y : Nat → Nat) : Nat → Nat → Nat
 | 0 => y
 | k + 1 => qr (i2 y k) k (4 + (k + 1) % 4) (8 + (k + 2) % 4) (12 + (k + 3) % 4)
def dr (y : Nat → Nat) : Nat → Nat := i2 (i1 y 4) 4
def drn (y : Nat → Nat) : Nat → Nat → Nat
 | 0 => y
 | k + 1 => dr (drn y k)
theorem i1_w {y : Nat → Nat} (h : W32 y) : ∀ k, W32 (i1 y k)
 | 0 => h
 | k + 1 => qr_w (i1_w h k) _ _ _ _
theorem i2_w {y : Nat → Nat} (h : W32 y) : ∀ k, W32 (i2 y k)
 | 0 => h
 | k + 1 => qr_w (i2_w h k) _ _ _ _
theorem dr_w {y : Nat → Nat} (h : W32 y) : W32 (dr y) := i2_w (i1_w h 4) 4
theorem drn_w {y : Nat → Nat} (h : W32 y) : ∀ k, W32 (drn y k)
 | 0 => h
 | k + 1 => dr_w (drn_w h k)
def oB (x y : Nat → Nat) (j : Nat) : Nat := add32 (x (j / 4)) (y (j / 4)) / 2 ^ (8 * (j % 4)) % 256
theorem oB_lt (x y : Nat → Nat) (j : Nat) : oB x y j < 256 := Nat.mod_lt _ (by decide)
def oK (x y : Nat → Nat) (k j : Nat) : Nat := if j < k then oB x y j else 0
theorem oK_upd (x y : Nat → Nat) (k : Nat) : upd (oK x y k) k (oB x y k) = oK x y (k + 1) := by
 funext j
 unfold upd oK
 by_cases e : j = k
 ·subst e; rw [if_pos rfl, if_pos (by omega)]
 rw [if_neg e]
 by_cases e1 : j < k
 ·rw [if_pos e1, if_pos (by omega)]
 rw [if_neg e1, if_neg (by omega)]
def sigS : ByteArray := ⟨#[101, 120, 112, 97, 110, 100, 32, 51, 50, 45, 98, 121, 116, 101, 32, 107]⟩
def numL (n : Nat) : List Int := [((n % 256 : Nat) : Int), ((n / 256 % 256 : Nat) : Int), ((n / 65536 % 256 : Nat) : Int), ((n / 16777216 % 256 : Nat) : Int)]
def allS (key nonce : ByteArray) (n : Nat) : ByteArray := sigS ++ key ++ strOfNums (numL n) ++ nonce
theorem allS_size {key nonce : ByteArray} (n : Nat) (h1 : key.size = 32) (h2 : nonce.size = 12) : (allS key nonce n).size = 64 := by
 unfold allS
 rw [ByteArray.size_append, ByteArray.size_append, ByteArray.size_append, sb_size, h1, h2]
 rfl
def blkF (s : ByteArray) : Nat → Nat := oB (wW s 64) (drn (wW s 64) 10)
def blkS (key nonce : ByteArray) (n : Nat) : ByteArray := strOfNums (rw_ 64 (blkF (allS key nonce n)))
theorem blkS_size (key nonce : ByteArray) (n : Nat) : (blkS key nonce n).size = 64 := by rw [blkS, sb_size, rw_len']
theorem byt_rw (n : Nat) (f : Nat → Nat) (h : ∀ j, f j < 256) : Byt (rw_ n f) := fun i => by
 rcases Nat.lt_or_ge i n with hi | hi
 ·rw [rw_at' n f i hi]
  have := h i
  omega
 ·unfold ia
  rw [List.getD_eq_getElem?_getD, List.getElem?_eq_none (by rw [rw_len']; omega)]
  exact ⟨Int.le_refl _, by decide⟩
theorem blkS_bt (key nonce : ByteArray) (n j : Nat) (h : j < 64) : bt (blkS key nonce n) j = blkF (allS key nonce n) j := by
 have := bt_sb (rw_ 64 (blkF (allS key nonce n))) (byt_rw 64 _ (fun j => oB_lt _ _ j)) j
 rw [rw_at' _ _ _ h] at this
 exact Int.ofNat_inj.1 this
theorem div4_i (i : Nat) (h : i < 64) : ∃ q m e : Nat, q = i / 4 ∧ m = i % 4 ∧ i = 4 * q + m ∧ m < 4 ∧ q < 16 ∧ (0 : Int) ≤ q ∧ (q : Int) < 16 ∧ binOp .quo 3 (.int .i64 (i : Int)) (.int .i64 4) = pure (.int .i64 (q : Int)) ∧ binOp .rem 3 (.int .i64 (i : Int)) (.int .i64 4) = pure (.int .i64 (m : Int)) ∧
  e = 8 * m ∧ IntKind.i64.wrap ((m : Int) * 8) = e ∧ IntKind.i64.wrap (8 * (m : Int)) = e ∧ IntKind.u64.wrap (e : Int) = e ∧ e ≤ 24 := by
 refine ⟨i / 4, i % 4, 8 * (i % 4), rfl, rfl, by omega, by omega, by omega, by omega, by omega, quo_i 3 i 4 _ (by decide) rfl (by omega), rem_i 3 i 4 _ (by decide) rfl (by omega), rfl, ?_, ?_, u64w rfl (by omega), by omega⟩
 ·exact (i64w (x := ((i % 4 : Nat) : Int) * 8) (n := 8 * (i % 4)) (by omega) (by omega)).2
 exact (i64w (x := 8 * ((i % 4 : Nat) : Int)) (n := 8 * (i % 4)) (by omega) (by omega)).2
theorem shl32 (a e z : Nat) (he : e ≤ 24) (hz : z = a * 2 ^ e) (hb : z < 4294967296) : Op.shift .shl .u32 (a : Int) .u64 (e : Int) = pure (.int .u32 (z : Int)) := by
 rw [shift_shl _ _ _ _ (by omega) (by show (e : Int) ≤ 32; omega), Int.toNat_natCast]
 have : (a : Int) * 2 ^ e = (z : Int) := by rw [hz]; push_cast; rfl
 rw [this, wrap32, Nat.mod_eq_of_lt hb]
theorem shr32 (a e z : Nat) (he : e ≤ 24) (hz : z = a / 2 ^ e) : Op.shift .shr .u32 (a : Int) .u64 (e : Int) = pure (.int .u32 (z : Int)) := by
 rw [shift_shr _ _ _ _ (by omega) (by show (e : Int) ≤ 32; omega), Int.toNat_natCast]
 have : (a : Int) / 2 ^ e = (z : Int) := by rw [hz]; push_cast; rfl
 rw [this]
theorem bt32 (s : ByteArray) (k : Nat) : IntKind.u32.wrap (bt s k : Int) = bt s k := by
 have := bt_lt s k
 rw [wrap32, Nat.mod_eq_of_lt (by omega)]
theorem or32 (a b : Nat) (ha : a < 4294967296) (hb : b < 4294967296) : bits .or .u32 (a : Int) (b : Int) = ((a ||| b : Nat) : Int) := u32_or_nat a b ha hb
theorem u8wm (a : Nat) : IntKind.u8.wrap (a : Int) = ((a % 256 : Nat) : Int) := by simp [IntKind.wrap, IntKind.bits, IntKind.signed]
theorem num_i (n : Nat) (h : n < 4294967296) : ∃ b0 b1 b2 b3 m1 m2 m3 : Nat, numL n = [(b0 : Int), (b1 : Int), (b2 : Int), (b3 : Int)] ∧ IntKind.u8.wrap (n : Int) = b0 ∧ (n : Int) / 256 = m1 ∧ IntKind.u8.wrap (m1 : Int) = b1 ∧ (n : Int) / 65536 = m2 ∧ IntKind.u8.wrap (m2 : Int) = b2 ∧ (n : Int) / 16777216 = m3 ∧ IntKind.u8.wrap (m3 : Int) = b3 :=
 ⟨n % 256, n / 256 % 256, n / 65536 % 256, n / 16777216 % 256, n / 256, n / 65536, n / 16777216, rfl, u8wm _, by omega, u8wm _, by omega, u8wm _, by omega, u8wm _⟩
end
end Go.Proofs.YtoplbfijodebmaaGreatDoor
