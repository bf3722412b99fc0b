/-
  The walk.
-/
import Derived.Test.YtoplbfijodebmaaGreatDoorM34PH
set_option linter.unusedVariables false
set_option linter.unusedSimpArgs false
set_option maxRecDepth 100000
set_option maxHeartbeats 40000000
namespace Go.Proofs.YtoplbfijodebmaaGreatDoor
open Go.RowKit T
theorem ty127 : RowTy 127 18 := ⟨⟨29, by kernel_rfl⟩, by kernel_rfl⟩
theorem rc_i {f : Nat → Nat} {m n : Nat} (hf : ∀ j, j < n → f j ≤ 536870912) {k : Nat} (hk : k < n) : ∃ x r q : Nat, IntKind.u64.wrap ((f k : Int) + (gC 256 f k : Int)) = x ∧ bits .and .u64 (x : Int) 255 = r ∧ (x : Int) / 256 = q ∧ gC 256 f (k + 1) = q ∧ rw_ m (gF 256 f (k + 1)) = (rw_ m (gF 256 f k)).set k (r : Int) ∧ gF 256 f k k = f k := by
 have h1 := hf k hk
 have h2 := gC_le (b := 256) (C := 4194304) hf (by decide) k (by omega)
 exact ⟨f k + gC 256 f k, (f k + gC 256 f k) % 256, (f k + gC 256 f k) / 256, u64w (by omega) (by omega), and_mask _ 255 8 rfl (by decide) (by omega), by omega, rfl, by rw [rw_set, gF_upd], gF_at _ _ _⟩
def s1n (f : Nat → Nat) : Nat → Nat → Nat
 | 0 => f
 | k + 1 => s1 (s1n f k)
theorem s1n_bq {f : Nat → Nat} (h : Bq f) : ∀ k, Bq (s1n f k)
 | 0 => h
 | k + 1 => s1_bq (s1n_bq h k)
theorem rt_top {f : Nat → Nat} (h : Bq f) : ∃ a0 a16 a17 c t1 t2 t3 t4 tp b16 y z : Nat, gF 256 f 18 0 = a0 ∧ gF 256 f 18 16 = a16 ∧ gF 256 f 18 17 = a17 ∧ gC 256 f 18 = c ∧ (a16 : Int) / 4 = t1 ∧ IntKind.u64.wrap ((a17 : Int) * 64) = t2 ∧ bits .or .u64 (t1 : Int) (t2 : Int) = t3 ∧ IntKind.u64.wrap ((c : Int) * 16384) = t4 ∧ bits .or .u64 (t3 : Int) (t4 : Int) = tp ∧ bits .and .u64 (a16 : Int) 3 = b16 ∧ IntKind.u64.wrap (5 * (tp : Int)) = y ∧ IntKind.u64.wrap ((a0 : Int) + (y : Int)) = z ∧ rw_ 18 (s1 f) = (((rw_ 18 (gF 256 f 18)).set 16 (b16 : Int)).set 17 0).set 0 (z : Int) := by
 have h0 := gF_lt (b := 256) (by decide) f (k := 18) (j := 0) (by decide)
 have h16 := gF_lt (b := 256) (by decide) f (k := 18) (j := 16) (by decide)
 have h17 := gF_lt (b := 256) (by decide) f (k := 18) (j := 17) (by decide)
 have hc := h.c 18 (Nat.le_refl _)
 have hrow : rw_ 18 (s1 f) = (((rw_ 18 (gF 256 f 18)).set 16 ((gF 256 f 18 16 % 4 : Nat) : Int)).set 17 ((0 : Nat) : Int)).set 0 ((gF 256 f 18 0 + 5 * topR f : Nat) : Int) := by
  rw [rw_set, rw_set, rw_set]; rfl
 have htop : topR f = gF 256 f 18 16 / 4 + gF 256 f 18 17 * 64 + gC 256 f 18 * 16384 := rfl
 generalize gF 256 f 18 0 = a0 at h0 hrow
 generalize gF 256 f 18 16 = a16 at h16 hrow htop
 generalize gF 256 f 18 17 = a17 at h17 htop
 generalize gC 256 f 18 = c at hc htop
 have key : ∀ a b k : Nat, a < 2 ^ k → a ||| b * 2 ^ k = a + b * 2 ^ k := fun a b k h => by
  rw [Nat.or_comm, Nat.mul_comm b, ← Nat.two_pow_add_eq_or_of_lt h, Nat.add_comm]
 have k1 := key (a16 / 4) a17 6 (by omega)
 have k2 := key (a16 / 4 + a17 * 64) c 14 (by omega)
 simp only [Nat.reducePow] at k1 k2
 have o1 := or64 (a16 / 4) (a17 * 64) (by omega) (by omega)
 have o2 := or64 (a16 / 4 + a17 * 64) (c * 16384) (by omega) (by omega)
 rw [k1] at o1
 rw [k2, ← htop] at o2
 have htl : topR f ≤ 100000000000 := by rw [htop]; omega
 refine ⟨a0, a16, a17, c, a16 / 4, a17 * 64, a16 / 4 + a17 * 64, c * 16384, topR f, a16 % 4, 5 * topR f, a0 + 5 * topR f, rfl, rfl, rfl, rfl, by omega, u64w (by omega) (by omega), o1, u64w (by omega) (by omega), o2, and_mask _ 3 2 rfl (by decide) (by omega), u64w (by omega) (by omega), u64w (by omega) (by omega), hrow⟩
theorem rcarry_any (f : Nat → Nat) (hf : Bq f) (w : World) : Calls Tryz.prog 70 #[.agg (lk .u64 (rw_ 18 f))] w fun e w' => e = .returned (.agg (lk .u64 (rw_ 18 (lim 256 (cN f))))) ∧ Below w.heap.size w w' := by
 replace hf := hDx hf
 go_enter Tryz.func70, Tryz.ntmps70
 have HK0 := hDx (KS.start w)
 go_upto_region 1 with (fail)
 have hm1 := ((HK0.out.made (.cells (lk .u64 (rw_ 18 f)) 127)).made (.cells ZRu64x18 127))
 try rw [show ((World.alloc w (.cells (lk .u64 (rw_ 18 f)) 127))).heap.size = w.heap.size + 1 by simp] at hm1
 obtain ⟨R, hgR⟩ := nm (w.heap.size + 1)
 obtain ⟨A, hgA⟩ := nm w.heap.size
 obtain ⟨ww1, hv1⟩ := nm (World.alloc (World.alloc w (.cells (lk .u64 (rw_ 18 f)) 127)) (.cells ZRu64x18 127))
 rw [← hv1, ← hgR, ← hgA] at hm1
 rw [← hv1]
 try rw [← hgR]
 try rw [← hgA]
 have HK1 : Hid (KS [(R, .cells (lk .u64 (zi 18)) 127), (A, .cells (lk .u64 (rw_ 18 (s1n f 0))) 127)] [] w ww1) := hDx hm1
 clear hm1 hv1 hgA hgR
 go_upto_region 2 with fail
 go_loopw [3] (fun vS wr => ∃ p : Nat, p ≤ 3 ∧ vS = .int .i64 (p : Int) ∧ KS [(R, .cells (lk .u64 (zi 18)) 127), (A, .cells (lk .u64 (rw_ 18 (s1n f p))) 127)] [] w wr) (fun vS _ => 3 - (intOf vS).toNat)
 case atStart => exact ⟨0, Nat.zero_le _, rfl, HK1.out⟩
 case round =>
  obtain ⟨p, hp, rfl, HK⟩ := hrel
  have HK2 := hDx HK
  clear HK
  by_cases hlt : p < 3
  ·have hp1 : (0 : Int) ≤ p := by omega
   have hp2 : (p : Int) < 3 := by omega
   obtain ⟨hp3, hp4⟩ := i64w (x := (p : Int) + 1) (n := p + 1) (by omega) (by omega)
   obtain ⟨G, hG⟩ := nm (s1n f p)
   have bG : Bq G := by rw [hG]; exact s1n_bq hf.out p
   have hs : s1n f (p + 1) = s1 G := by rw [hG]; rfl
   rw [← hG, ← gF_zero 256 G] at HK2
   clear hG
   have HO := hDx (And.intro hs (And.intro hlt bG))
   clear hs hlt bG
   go_upto_region 6 with fail
   go_loopw [4, 5] (fun vX vS wr => ∃ i : Nat, i ≤ 18 ∧ vS = .int .i64 (i : Int) ∧ vX = .int .u64 (gC 256 G i : Int) ∧ KS [(R, .cells (lk .u64 (zi 18)) 127), (A, .cells (lk .u64 (rw_ 18 (gF 256 G i))) 127)] [] w wr) (fun vX vS _ => 18 - (intOf vS).toNat)
   case atStart => exact ⟨0, Nat.zero_le _, rfl, rfl, HK2.out⟩
   obtain ⟨i, hi, rfl, rfl, HK⟩ := hrel
   have HK3 := hDx HK
   clear HK
   by_cases hlt : i < 18
   ·have hi1 : (0 : Int) ≤ i := by omega
    have hi2 : (i : Int) < 18 := by omega
    obtain ⟨hi3, hi4⟩ := i64w (x := (i : Int) + 1) (n := i + 1) (by omega) (by omega)
    obtain ⟨x, r, q, k1, k2, k3, k4, k5, k6⟩ := rc_i (m := 18) (n := 18) HO.out.2.2.1 hlt
    have c0 := (HK3.out.rk 1 rfl (rw_len' _ _)).cell i hlt
    rw [rw_at' _ _ _ hlt, k6] at c0
    obtain ⟨gk, hgk⟩ := nm (G i)
    obtain ⟨ck, hck⟩ := nm (gC 256 G i)
    rw [← hgk] at c0 k1
    rw [← hck] at k1
    rw [← hck]
    obtain ⟨V, hV⟩ := nm (rw_ 18 (gF 256 G i))
    have lV : V.length = 18 := by rw [hV, rw_len']
    rw [← hV] at HK3
    rw [← hV] at k5
    have z0 := (HK3.out.rk 1 rfl lV).fz
    have HJ := hDx (And.intro k4 (And.intro k5 hlt))
    clear hgk hck hV k4 k5 k6 hlt
    go_upto_region 7 with fail
    obtain ⟨ww4, hv4⟩ := nm (World.setCell wr ⟨A, i, none⟩ (.int .u64 ((r : Int))))
    have HK4 : Hid (KS [(R, .cells (lk .u64 (zi 18)) 127), (A, .cells (lk .u64 (V.set i (r : Int))) 127)] [] w ww4) := by rw [hv4]; exact hDx (HK3.out.setK 1 rfl i ((r : Int)))
    rw [← hv4]
    clear hv4
    rw [← HJ.out.2.1] at HK4
    clear c0 z0 k1 k2 k3 lV
    go_wp2_with fail
    go_roundw
    case rel =>
     exact ⟨i + 1, HJ.out.2.2, by first | rfl | go_num, by rw [HJ.out.1], HK4.out⟩
    exact measI 18 _ HJ.out.2.2
   obtain rfl : i = 18 := by omega
   try simp only [Int.cast_ofNat_Int]
   obtain ⟨a0, a16, a17, ck, t1, t2, t3, t4, tp, b16, y, x0, h0, h16, h17, hck, k1, k2, k3, k4, k5, k6, k7, k8, es⟩ := rt_top HO.out.2.2
   rw [hck]
   have c0 := (HK3.out.rk 1 rfl (rw_len' _ _)).cell 0 (by decide)
   have c16 := (HK3.out.rk 1 rfl (rw_len' _ _)).cell 16 (by decide)
   have c17 := (HK3.out.rk 1 rfl (rw_len' _ _)).cell 17 (by decide)
   rw [rw_at' _ _ _ (by decide), h0] at c0
   rw [rw_at' _ _ _ (by decide), h16] at c16
   rw [rw_at' _ _ _ (by decide), h17] at c17
   obtain ⟨V, hV⟩ := nm (rw_ 18 (gF 256 G 18))
   have lV : V.length = 18 := by rw [hV, rw_len']
   rw [← hV] at HK3
   rw [← hV] at es
   have z0 := (HK3.out.rk 1 rfl lV).fz
   replace es := hDx es
   have hA0 : ia ((V.set 16 (b16 : Int)).set 17 0) 0 = (a0 : Int) := by rw [ia_set _ _ _ _ (by rw [List.length_set, lV]; decide), if_neg (by decide), ia_set _ _ _ _ (by rw [lV]; decide), if_neg (by decide), hV, rw_at' _ _ _ (by decide), h0]
   clear h0 h16 h17 hck hV
   go_upto_region 13 with fail
   obtain ⟨ww4, hv4⟩ := nm (World.setCell wr ⟨A, 16, none⟩ (.int .u64 ((b16 : Int))))
   have HK4 : Hid (KS [(R, .cells (lk .u64 (zi 18)) 127), (A, .cells (lk .u64 (V.set 16 (b16 : Int))) 127)] [] w ww4) := by rw [hv4]; exact hDx (HK3.out.setK 1 rfl 16 ((b16 : Int)))
   rw [← hv4]
   clear hv4
   clear z0 c16 c17 k1 k2 k3 k4 k5 k6
   have l1 : (V.set 16 (b16 : Int)).length = 18 := by rw [List.length_set, lV]
   have z1 := (HK4.out.rk 1 rfl l1).fz
   have d17 := (HK4.out.rk 1 rfl l1).cell 17 (by decide)
   go_upto_region 14 with fail
   obtain ⟨ww5, hv5⟩ := nm (World.setCell ww4 ⟨A, 17, none⟩ (.int .u64 (0)))
   have HK5 : Hid (KS [(R, .cells (lk .u64 (zi 18)) 127), (A, .cells (lk .u64 ((V.set 16 (b16 : Int)).set 17 0)) 127)] [] w ww5) := by rw [hv5]; exact hDx (HK4.out.setK 1 rfl 17 (0))
   rw [← hv5]
   clear hv5
   clear z1 d17 c0
   have l2 : ((V.set 16 (b16 : Int)).set 17 0).length = 18 := by rw [List.length_set, l1]
   have z1 := (HK5.out.rk 1 rfl l2).fz
   have c0 := (HK5.out.rk 1 rfl l2).cell 0 (by decide)
   rw [hA0] at c0
   go_upto_region 3 with fail
   obtain ⟨ww6, hv6⟩ := nm (World.setCell ww5 ⟨A, 0, none⟩ (.int .u64 ((x0 : Int))))
   have HK6 : Hid (KS [(R, .cells (lk .u64 (zi 18)) 127), (A, .cells (lk .u64 (((V.set 16 (b16 : Int)).set 17 0).set 0 (x0 : Int))) 127)] [] w ww6) := by rw [hv6]; exact hDx (HK5.out.setK 1 rfl 0 ((x0 : Int)))
   rw [← hv6]
   clear hv6
   clear z1 c0 k7 k8
   rw [← es.out] at HK6
   go_wp2_with fail
   go_roundw
   case rel =>
    exact ⟨p + 1, HO.out.2.1, by first | rfl | go_num, by rw [HO.out.1]; exact HK6.out⟩
   exact measI 3 _ HO.out.2.1
  obtain rfl : p = 3 := by omega
  try simp only [Int.cast_ofNat_Int]
  obtain ⟨F, hF⟩ := nm (s1n f 3)
  have bF : Bq F := by rw [hF]; exact s1n_bq hf.out 3
  have hrow : rw_ 18 (gF 256 F 18) = rw_ 18 (lim 256 (cN f)) := by rw [hF]; exact rw_ext fun j hj => cN_lim f j hj
  rw [← hF, ← gF_zero 256 F] at HK2
  clear hF
  have HF := hDx (And.intro bF hrow)
  clear bF hrow
  go_upto_region 17 with fail
  go_loopw [8, 9] (fun vX vS wr => ∃ i : Nat, i ≤ 18 ∧ vS = .int .i64 (i : Int) ∧ vX = .int .u64 (gC 256 F i : Int) ∧ KS [(R, .cells (lk .u64 (zi 18)) 127), (A, .cells (lk .u64 (rw_ 18 (gF 256 F i))) 127)] [] w wr) (fun vX vS _ => 18 - (intOf vS).toNat)
  case atStart => exact ⟨0, Nat.zero_le _, rfl, rfl, HK2.out⟩
  obtain ⟨i, hi, rfl, rfl, HK⟩ := hrel
  have HK3 := hDx HK
  clear HK
  by_cases hlt : i < 18
  ·have hi1 : (0 : Int) ≤ i := by omega
   have hi2 : (i : Int) < 18 := by omega
   obtain ⟨hi3, hi4⟩ := i64w (x := (i : Int) + 1) (n := i + 1) (by omega) (by omega)
   obtain ⟨x, r, q, k1, k2, k3, k4, k5, k6⟩ := rc_i (m := 18) (n := 18) HF.out.1.1 hlt
   have c0 := (HK3.out.rk 1 rfl (rw_len' _ _)).cell i hlt
   rw [rw_at' _ _ _ hlt, k6] at c0
   obtain ⟨gk, hgk⟩ := nm (F i)
   obtain ⟨ck, hck⟩ := nm (gC 256 F i)
   rw [← hgk] at c0 k1
   rw [← hck] at k1
   rw [← hck]
   obtain ⟨V, hV⟩ := nm (rw_ 18 (gF 256 F i))
   have lV : V.length = 18 := by rw [hV, rw_len']
   rw [← hV] at HK3
   rw [← hV] at k5
   have z0 := (HK3.out.rk 1 rfl lV).fz
   have HJ := hDx (And.intro k4 (And.intro k5 hlt))
   clear hgk hck hV k4 k5 k6 hlt
   go_upto_region 18 with fail
   obtain ⟨ww4, hv4⟩ := nm (World.setCell wr ⟨A, i, none⟩ (.int .u64 ((r : Int))))
   have HK4 : Hid (KS [(R, .cells (lk .u64 (zi 18)) 127), (A, .cells (lk .u64 (V.set i (r : Int))) 127)] [] w ww4) := by rw [hv4]; exact hDx (HK3.out.setK 1 rfl i ((r : Int)))
   rw [← hv4]
   clear hv4
   rw [← HJ.out.2.1] at HK4
   clear c0 z0 k1 k2 k3 lV
   go_wp2_with fail
   go_roundw
   case rel =>
    exact ⟨i + 1, HJ.out.2.2, by first | rfl | go_num, by rw [HJ.out.1], HK4.out⟩
   exact measI 18 _ HJ.out.2.2
  obtain rfl : i = 18 := by omega
  try simp only [Int.cast_ofNat_Int]
  rw [HF.out.2] at HK3
  have FA := (HK3.out.rk 1 rfl (rw_len' _ _))
  have FR := (HK3.out.rk 0 rfl (zi_len 18))
  go_wp2_with (first | (refine wpList_load_rk rfl _ rfl rfl FA ty127 ?_) | (refine wpList_store_rk rfl _ _ rfl rfl rfl FR ty127 (rw_len' _ _) ?_))
  have KE := HK3.out.setRow 0 rfl (lk .u64 (rw_ 18 (lim 256 (cN f))))
  try simp only [Exit.inBlock, Exit.then]
  refine bodyPost_ret (results_rk (p := 2) (by kernel_rfl) (by rfl) (KE.rk 0 rfl (rw_len' _ _)) ty127) rfl ?_
  exact ⟨rfl, KE.below⟩
theorem rm_i {f g : Nat → Nat} (hf : ∀ j, j < 18 → f j ≤ 255) (hg : ∀ j, j < 18 → g j ≤ 255) {i k : Nat} (hi : i < 18) (hk : k < 18) : ∃ m p s : Nat, IntKind.i64.wrap ((i : Int) + (k : Int)) = m ∧ wrap64 ((i : Int) + (k : Int)) = m ∧ (0 : Int) ≤ m ∧ (m : Int) < 36 ∧ m < 36 ∧ IntKind.u64.wrap ((f i : Int) * (g k : Int)) = p ∧ IntKind.u64.wrap ((tmR f g (18 * i + k) m : Int) + (p : Int)) = s ∧ rw_ 36 (tmR f g (18 * i + (k + 1))) = (rw_ 36 (tmR f g (18 * i + k))).set m (s : Int) := by
 have h1 := hf i hi
 have h2 := hg k hk
 have h3 : f i * g k ≤ 255 * 255 := Nat.mul_le_mul h1 h2
 have h4 := tmR_le hf hg (18 * i + k) (by omega) (i + k)
 obtain ⟨a1, a2⟩ := i64w (x := (i : Int) + (k : Int)) (n := i + k) (by omega) (by omega)
 refine ⟨i + k, f i * g k, tmR f g (18 * i + k) (i + k) + f i * g k, a2, a1, by omega, by omega, by omega, u64w (by push_cast; rfl) (by omega), u64w (by omega) (by omega), ?_⟩
 rw [rw_set, ← Nat.add_assoc, tmR, show (18 * i + k) / 18 = i by omega, show (18 * i + k) % 18 = k by omega]
theorem tmR_bd {f g : Nat → Nat} (hf : ∀ j, j < 18 → f j ≤ 255) (hg : ∀ j, j < 18 → g j ≤ 255) : ∀ j, j < 36 → tmR f g 324 j ≤ 536870912 := fun j _ => Nat.le_trans (tmR_le hf hg 324 (Nat.le_refl _) j) (by omega)
def loP (V i j : Nat) : Nat := if j < i then lim 256 V j else 0
def hiP (V i j : Nat) : Nat := if j < i then lim 256 (V / 1361129467683753853853498429727072845824) j else 0
def mdP (V i j : Nat) : Nat := if j < i then loR V j + 5 * hiR V j else loR V j
theorem ifP_set (m : Nat) (a b : Nat → Nat) (i : Nat) : rw_ m (fun j => if j < i + 1 then a j else b j) = (rw_ m (fun j => if j < i then a j else b j)).set i (a i : Int) := by
 rw [rw_set]
 refine rw_ext fun j _ => ?_
 unfold upd
 by_cases e : j = i
 ·subst e; rw [if_pos (by omega), if_pos rfl]
 rw [if_neg e]
 simp only []
 by_cases h : j < i
 ·rw [if_pos (by omega), if_pos h]
 rw [if_neg (by omega), if_neg h]
theorem lh_i (V i : Nat) (hi : i < 17) : ∃ t0 t1 t2 p1 p2 u1 u2 u3 h : Nat, lim 256 V i = t0 ∧ lim 256 V p1 = t1 ∧ lim 256 V p2 = t2 ∧ IntKind.i64.wrap (16 + (i : Int)) = p1 ∧ wrap64 (16 + (i : Int)) = p1 ∧ (0 : Int) ≤ p1 ∧ (p1 : Int) < 36 ∧ p1 < 36 ∧ IntKind.i64.wrap (17 + (i : Int)) = p2 ∧ wrap64 (17 + (i : Int)) = p2 ∧ (0 : Int) ≤ p2 ∧ (p2 : Int) < 36 ∧ p2 < 36 ∧ (t1 : Int) / 4 = u1 ∧ IntKind.u64.wrap ((t2 : Int) * 64) = u2 ∧ bits .and .u64 (u2 : Int) 255 = u3 ∧ bits .or .u64 (u1 : Int) (u3 : Int) = h ∧
  rw_ 18 (loP V (i + 1)) = (rw_ 18 (loP V i)).set i (t0 : Int) ∧ rw_ 18 (hiP V (i + 1)) = (rw_ 18 (hiP V i)).set i (h : Int) ∧ i < 18 ∧ (i : Int) < 18 ∧ i < 36 ∧ (i : Int) < 36 ∧ (0 : Int) ≤ i ∧ IntKind.i64.wrap ((i : Int) + 1) = ((i + 1 : Nat) : Int) ∧ wrap64 ((i : Int) + 1) = ((i + 1 : Nat) : Int) := by
 obtain ⟨a1, a2⟩ := i64w (x := 16 + (i : Int)) (n := 16 + i) (by omega) (by omega)
 obtain ⟨b1, b2⟩ := i64w (x := 17 + (i : Int)) (n := 17 + i) (by omega) (by omega)
 obtain ⟨c1, c2⟩ := i64w (x := (i : Int) + 1) (n := i + 1) (by omega) (by omega)
 have h1 := lim_lt (b := 256) (by decide) V (16 + i)
 have h2 := lim_lt (b := 256) (by decide) V (17 + i)
 have hb := hi_byte V i
 have hr1 := ifP_set 18 (lim 256 V) (fun _ => 0) i
 have hr2 := ifP_set 18 (lim 256 (V / 1361129467683753853853498429727072845824)) (fun _ => 0) i
 rw [← hb] at hr2
 generalize hx : lim 256 V (16 + i) = x at h1 hr2 hb
 generalize hy : lim 256 V (17 + i) = y at h2 hr2 hb
 refine ⟨lim 256 V i, x, y, 16 + i, 17 + i, x / 4, y * 64, y * 64 % 256, _, rfl, ?_, ?_, a2, a1, by omega, by omega, by omega, b2, b1, by omega, by omega, by omega, by omega, u64w (by omega) (by omega), and_mask _ 255 8 rfl (by decide) (by omega), or64 _ _ (by omega) (by omega), hr1, hr2, by omega, by omega, by omega, by omega, by omega, c2, c1⟩
 ·exact hx
 exact hy
theorem l16_i (V : Nat) : ∃ x y : Nat, ia (rw_ 18 (loP V 17)) 16 = (x : Int) ∧ bits .and .u64 (x : Int) 3 = y ∧ rw_ 18 (mdP V 0) = (rw_ 18 (loP V 17)).set 16 (y : Int) := by
 have h1 := lim_lt (b := 256) (by decide) V 16
 refine ⟨lim 256 V 16, lim 256 V 16 % 4, by rw [rw_at' _ _ _ (by decide)]; rfl, and_mask _ 3 2 rfl (by decide) (by omega), ?_⟩
 rw [rw_set]
 refine rw_ext fun j hj => ?_
 unfold mdP upd
 rw [if_neg (by omega)]
 by_cases e : j = 16
 ·subst e; rw [if_pos rfl]; rfl
 rw [if_neg e]
 unfold loR loP
 by_cases h : j < 16
 ·rw [if_pos h, if_pos (by omega)]
 rw [if_neg h, if_neg e, if_neg (by omega)]
theorem hiP_all (V : Nat) : rw_ 18 (hiP V 17) = rw_ 18 (hiR V) := rfl
theorem md_i (V i : Nat) (hi : i < 18) : ∃ x y p s : Nat, ia (rw_ 18 (mdP V i)) i = (x : Int) ∧ ia (rw_ 18 (hiR V)) i = (y : Int) ∧ IntKind.u64.wrap (5 * (y : Int)) = p ∧ IntKind.u64.wrap ((x : Int) + (p : Int)) = s ∧ rw_ 18 (mdP V (i + 1)) = (rw_ 18 (mdP V i)).set i (s : Int) := by
 have h1 := loR_le V i
 have h2 := hiR_le V i
 have h3 := ifP_set 18 (fun j => loR V j + 5 * hiR V j) (loR V) i
 refine ⟨loR V i, hiR V i, 5 * hiR V i, loR V i + 5 * hiR V i, ?_, rw_at' _ _ _ hi, u64w (by omega) (by omega), u64w (by omega) (by omega), h3⟩
 rw [rw_at' _ _ _ hi]
 unfold mdP
 rw [if_neg (by omega)]
theorem mdP_all (V : Nat) : rw_ 18 (mdP V 18) = rw_ 18 (mdR V) := rw_ext fun j hj => by unfold mdP; rw [if_pos hj]; rfl
theorem rtimes_any (f g : Nat → Nat) (hf : ∀ j, j < 18 → f j ≤ 255) (hg : ∀ j, j < 18 → g j ≤ 255) (w : World) : Calls Tryz.prog 69 #[.agg (lk .u64 (rw_ 18 f)), .agg (lk .u64 (rw_ 18 g))] w fun e w' => e = .returned (.agg (lk .u64 (rw_ 18 (lim 256 (cN (mdR (vs 256 f 18 * vs 256 g 18))))))) ∧ Below w.heap.size w w' := by
 obtain ⟨V, hV⟩ := nm (vs 256 f 18 * vs 256 g 18)
 have hP : rw_ 36 (gF 256 (tmR f g 324) 36) = rw_ 36 (lim 256 V) := by rw [hV]; exact rw_ext fun j hj => prod_lim j hj
 rw [← hV]
 clear hV
 have HB := hDx (And.intro hf (And.intro hg hP))
 clear hf hg hP
 go_enter Tryz.func69, Tryz.ntmps69
 have HK0 := hDx (KS.start w)
 go_upto_region 2 with (fail)
 have hm1 := ((((HK0.out.made (.cells (lk .u64 (rw_ 18 f)) 127)).made (.cells (lk .u64 (rw_ 18 g)) 127)).made (.cells ZRu64x18 127)).made (.cells ZRu64x36 172))
 try rw [show ((World.alloc (World.alloc (World.alloc w (.cells (lk .u64 (rw_ 18 f)) 127)) (.cells (lk .u64 (rw_ 18 g)) 127)) (.cells ZRu64x18 127))).heap.size = w.heap.size + 3 by simp] at hm1
 try rw [show ((World.alloc (World.alloc w (.cells (lk .u64 (rw_ 18 f)) 127)) (.cells (lk .u64 (rw_ 18 g)) 127))).heap.size = w.heap.size + 2 by simp] at hm1
 try rw [show ((World.alloc w (.cells (lk .u64 (rw_ 18 f)) 127))).heap.size = w.heap.size + 1 by simp] at hm1
 obtain ⟨T, hgT⟩ := nm (w.heap.size + 3)
 obtain ⟨R, hgR⟩ := nm (w.heap.size + 2)
 obtain ⟨B, hgB⟩ := nm (w.heap.size + 1)
 obtain ⟨A, hgA⟩ := nm w.heap.size
 obtain ⟨ww1, hv1⟩ := nm (World.alloc (World.alloc (World.alloc (World.alloc w (.cells (lk .u64 (rw_ 18 f)) 127)) (.cells (lk .u64 (rw_ 18 g)) 127)) (.cells ZRu64x18 127)) (.cells ZRu64x36 172))
 rw [← hv1, ← hgT, ← hgR, ← hgB, ← hgA] at hm1
 rw [← hv1]
 try rw [← hgT]
 try rw [← hgR]
 try rw [← hgB]
 try rw [← hgA]
 have HK1 : Hid (KS [(T, .cells (lk .u64 (rw_ 36 (tmR f g (18 * 0)))) 172), (R, .cells (lk .u64 (zi 18)) 127), (B, .cells (lk .u64 (rw_ 18 g)) 127), (A, .cells (lk .u64 (rw_ 18 f)) 127)] [] w ww1) := hDx hm1
 clear hm1 hv1 hgA hgB hgR hgT
 go_upto_region 3 with fail
 go_loopw [6] (fun vS wr => ∃ i : Nat, i ≤ 18 ∧ vS = .int .i64 (i : Int) ∧ KS [(T, .cells (lk .u64 (rw_ 36 (tmR f g (18 * i)))) 172), (R, .cells (lk .u64 (zi 18)) 127), (B, .cells (lk .u64 (rw_ 18 g)) 127), (A, .cells (lk .u64 (rw_ 18 f)) 127)] [] w wr) (fun vS _ => 18 - (intOf vS).toNat)
 case atStart => exact ⟨0, Nat.zero_le _, rfl, HK1.out⟩
 case round =>
  obtain ⟨i, hi, rfl, HK⟩ := hrel
  have HK2 := hDx HK
  clear HK
  by_cases hlt : i < 18
  ·have hi1 : (0 : Int) ≤ i := by omega
   have hi2 : (i : Int) < 18 := by omega
   obtain ⟨hi3, hi4⟩ := i64w (x := (i : Int) + 1) (n := i + 1) (by omega) (by omega)
   have HI := hDx hlt
   clear hlt
   go_upto_region 6 with fail
   change Hid (KS [(T, .cells (lk .u64 (rw_ 36 (tmR f g (18 * i + 0)))) 172), (R, .cells (lk .u64 (zi 18)) 127), (B, .cells (lk .u64 (rw_ 18 g)) 127), (A, .cells (lk .u64 (rw_ 18 f)) 127)] [] w wr) at HK2
   go_loopw [7] (fun vS wr => ∃ k : Nat, k ≤ 18 ∧ vS = .int .i64 (k : Int) ∧ KS [(T, .cells (lk .u64 (rw_ 36 (tmR f g (18 * i + k)))) 172), (R, .cells (lk .u64 (zi 18)) 127), (B, .cells (lk .u64 (rw_ 18 g)) 127), (A, .cells (lk .u64 (rw_ 18 f)) 127)] [] w wr) (fun vS _ => 18 - (intOf vS).toNat)
   case atStart => exact ⟨0, Nat.zero_le _, rfl, HK2.out⟩
   obtain ⟨k, hk, rfl, HK⟩ := hrel
   have HK3 := hDx HK
   clear HK
   by_cases hlt : k < 18
   ·have hk1 : (0 : Int) ≤ k := by omega
    have hk2 : (k : Int) < 18 := by omega
    obtain ⟨hk3, hk4⟩ := i64w (x := (k : Int) + 1) (n := k + 1) (by omega) (by omega)
    obtain ⟨m, p, q, m2, m3, m4, m5, m6, k1, k2, es⟩ := rm_i HB.out.1 HB.out.2.1 HI.out hlt
    have c0 := (HK3.out.rk 3 rfl (rw_len' _ _)).cell i HI.out
    have c1 := (HK3.out.rk 2 rfl (rw_len' _ _)).cell k hlt
    rw [rw_at' _ _ _ HI.out] at c0
    rw [rw_at' _ _ _ hlt] at c1
    have c2 := (HK3.out.rk 0 rfl (rw_len' _ _)).cell m m6
    rw [rw_at' _ _ _ m6] at c2
    obtain ⟨x, hx⟩ := nm (f i)
    obtain ⟨y, hy⟩ := nm (g k)
    obtain ⟨v, hv⟩ := nm (tmR f g (18 * i + k) m)
    rw [← hx] at c0 k1
    rw [← hy] at c1 k1
    rw [← hv] at c2 k2
    obtain ⟨VT, hVT⟩ := nm (rw_ 36 (tmR f g (18 * i + k)))
    have lVT : VT.length = 36 := by rw [hVT, rw_len']
    rw [← hVT] at HK3
    rw [← hVT] at es
    have z0 := (HK3.out.rk 0 rfl lVT).fz
    have HJ := hDx (And.intro es hlt)
    clear es hVT hx hy hv hlt m6
    go_upto_region 8 with fail
    go_still_tail 17, (by kernel_rfl)
    go_upto_region 7 with fail
    obtain ⟨ww4, hv4⟩ := nm (World.drew (World.setCell wr ⟨T, m, none⟩ (.int .u64 ((q : Int)))))
    have HK4 : Hid (KS [(T, .cells (lk .u64 (VT.set m (q : Int))) 172), (R, .cells (lk .u64 (zi 18)) 127), (B, .cells (lk .u64 (rw_ 18 g)) 127), (A, .cells (lk .u64 (rw_ 18 f)) 127)] [] w ww4) := by rw [hv4]; exact hDx ((HK3.out.setK 0 rfl m ((q : Int))).drew)
    rw [← hv4]
    clear hv4
    clear c0 c1 c2 z0 k1 k2 m2 m3
    go_wp2_with fail
    go_roundw
    case rel =>
     exact ⟨k + 1, HJ.out.2, by first | rfl | go_num, by rw [HJ.out.1]; exact HK4.out⟩
    exact measI 18 _ HJ.out.2
   obtain rfl : k = 18 := by omega
   try simp only [Int.cast_ofNat_Int]
   rw [show 18 * i + 18 = 18 * (i + 1) by omega] at HK3
   go_wp2_with fail
   go_roundw
   case rel =>
    exact ⟨i + 1, HI.out, by first | rfl | go_num, HK3.out⟩
   exact measI 18 _ HI.out
  obtain rfl : i = 18 := by omega
  try simp only [Int.cast_ofNat_Int]
  obtain ⟨G, hG⟩ := nm (tmR f g 324)
  have bG : ∀ j, j < 36 → G j ≤ 536870912 := by rw [hG]; exact tmR_bd HB.out.1 HB.out.2.1
  rw [show tmR f g (18 * 18) = G from hG.symm, ← gF_zero 256 G] at HK2
  have hP : rw_ 36 (gF 256 G 36) = rw_ 36 (lim 256 V) := by rw [hG]; exact HB.out.2.2
  have HG := hDx (And.intro bG hP)
  clear hG bG hP
  go_upto_region 11 with fail
  go_loopw [8, 9] (fun vX vS wr => ∃ i : Nat, i ≤ 36 ∧ vS = .int .i64 (i : Int) ∧ vX = .int .u64 (gC 256 G i : Int) ∧ KS [(T, .cells (lk .u64 (rw_ 36 (gF 256 G i))) 172), (R, .cells (lk .u64 (zi 18)) 127), (B, .cells (lk .u64 (rw_ 18 g)) 127), (A, .cells (lk .u64 (rw_ 18 f)) 127)] [] w wr) (fun vX vS _ => 36 - (intOf vS).toNat)
  case atStart => exact ⟨0, Nat.zero_le _, rfl, rfl, HK2.out⟩
  case round =>
   obtain ⟨i, hi, rfl, rfl, HK⟩ := hrel
   have HK3 := hDx HK
   clear HK
   by_cases hlt : i < 36
   ·have hi1 : (0 : Int) ≤ i := by omega
    have hi2 : (i : Int) < 36 := by omega
    obtain ⟨hi3, hi4⟩ := i64w (x := (i : Int) + 1) (n := i + 1) (by omega) (by omega)
    obtain ⟨x, r, q, k1, k2, k3, k4, k5, k6⟩ := rc_i (m := 36) (n := 36) HG.out.1 hlt
    have c0 := (HK3.out.rk 0 rfl (rw_len' _ _)).cell i hlt
    rw [rw_at' _ _ _ hlt, k6] at c0
    obtain ⟨gk, hgk⟩ := nm (G i)
    obtain ⟨ck, hck⟩ := nm (gC 256 G i)
    rw [← hgk] at c0 k1
    rw [← hck] at k1
    rw [← hck]
    obtain ⟨V, hV⟩ := nm (rw_ 36 (gF 256 G i))
    have lV : V.length = 36 := by rw [hV, rw_len']
    rw [← hV] at HK3
    rw [← hV] at k5
    have z0 := (HK3.out.rk 0 rfl lV).fz
    have HJ := hDx (And.intro k4 (And.intro k5 hlt))
    clear hgk hck hV k4 k5 k6 hlt
    go_upto_region 12 with fail
    obtain ⟨ww4, hv4⟩ := nm (World.setCell wr ⟨T, i, none⟩ (.int .u64 ((r : Int))))
    have HK4 : Hid (KS [(T, .cells (lk .u64 (V.set i (r : Int))) 172), (R, .cells (lk .u64 (zi 18)) 127), (B, .cells (lk .u64 (rw_ 18 g)) 127), (A, .cells (lk .u64 (rw_ 18 f)) 127)] [] w ww4) := by rw [hv4]; exact hDx (HK3.out.setK 0 rfl i ((r : Int)))
    rw [← hv4]
    clear hv4
    rw [← HJ.out.2.1] at HK4
    clear c0 z0 k1 k2 k3 lV
    go_wp2_with fail
    go_roundw
    case rel =>
     exact ⟨i + 1, HJ.out.2.2, by first | rfl | go_num, by rw [HJ.out.1], HK4.out⟩
    exact measI 36 _ HJ.out.2.2
   obtain rfl : i = 36 := by omega
   try simp only [Int.cast_ofNat_Int]
   rw [HG.out.2] at HK3
   go_upto_region 17 with fail
   have hm4 := ((HK3.out.made (.cells ZRu64x18 127)).made (.cells ZRu64x18 127))
   try rw [show ((World.alloc wr (.cells ZRu64x18 127))).heap.size = wr.heap.size + 1 by simp] at hm4
   obtain ⟨HI_, hgHI_⟩ := nm (wr.heap.size + 1)
   obtain ⟨LO, hgLO⟩ := nm wr.heap.size
   obtain ⟨ww4, hv4⟩ := nm (World.alloc (World.alloc wr (.cells ZRu64x18 127)) (.cells ZRu64x18 127))
   rw [← hv4, ← hgHI_, ← hgLO] at hm4
   rw [← hv4]
   try rw [← hgHI_]
   try rw [← hgLO]
   have HK4 : Hid (KS [(HI_, .cells (lk .u64 (rw_ 18 (hiP V 0))) 127), (LO, .cells (lk .u64 (rw_ 18 (loP V 0))) 127), (T, .cells (lk .u64 (rw_ 36 (lim 256 V))) 172), (R, .cells (lk .u64 (zi 18)) 127), (B, .cells (lk .u64 (rw_ 18 g)) 127), (A, .cells (lk .u64 (rw_ 18 f)) 127)] [] w ww4) := hDx hm4
   clear hm4 hv4 hgLO hgHI_
   go_upto_region 18 with fail
   go_loopw [13] (fun vS wr => ∃ a : Nat, a ≤ 17 ∧ vS = .int .i64 (a : Int) ∧ KS [(HI_, .cells (lk .u64 (rw_ 18 (hiP V a))) 127), (LO, .cells (lk .u64 (rw_ 18 (loP V a))) 127), (T, .cells (lk .u64 (rw_ 36 (lim 256 V))) 172), (R, .cells (lk .u64 (zi 18)) 127), (B, .cells (lk .u64 (rw_ 18 g)) 127), (A, .cells (lk .u64 (rw_ 18 f)) 127)] [] w wr) (fun vS _ => 17 - (intOf vS).toNat)
   case atStart => exact ⟨0, Nat.zero_le _, rfl, HK4.out⟩
   case round =>
    obtain ⟨a, ha, rfl, HK⟩ := hrel
    have HK5 := hDx HK
    clear HK
    by_cases hlt : a < 17
    ·have ha1 : (0 : Int) ≤ a := by omega
     have ha2 : (a : Int) < 17 := by omega
     obtain ⟨ha3, ha4⟩ := i64w (x := (a : Int) + 1) (n := a + 1) (by omega) (by omega)
     obtain ⟨t0, t1, t2, p1, p2, u1, u2, u3, hh, e0, e1, e2, q1, q2, q3, q4, q5, q6, q7, q8, q9, q10, k1, k2, k3, k4, es1, es2, b1, b2, b3, b4, b5, b6, b7⟩ := lh_i V a hlt
     have c0 := (HK5.out.rk 2 rfl (rw_len' _ _)).cell a b3
     have c1 := (HK5.out.rk 2 rfl (rw_len' _ _)).cell p1 q5
     have c2 := (HK5.out.rk 2 rfl (rw_len' _ _)).cell p2 q10
     rw [rw_at' _ _ _ b3, e0] at c0
     rw [rw_at' _ _ _ q5, e1] at c1
     rw [rw_at' _ _ _ q10, e2] at c2
     obtain ⟨VL, hVL⟩ := nm (rw_ 18 (loP V a))
     have lVL : VL.length = 18 := by rw [hVL, rw_len']
     rw [← hVL] at HK5
     obtain ⟨VH, hVH⟩ := nm (rw_ 18 (hiP V a))
     have lVH : VH.length = 18 := by rw [hVH, rw_len']
     rw [← hVH] at HK5
     rw [← hVL] at es1
     rw [← hVH] at es2
     have z0 := (HK5.out.rk 1 rfl lVL).fz
     have d0 := (HK5.out.rk 1 rfl lVL).cell a b1
     have hT1 : ia (rw_ 36 (lim 256 V)) p1 = (t1 : Int) := by rw [rw_at' _ _ _ q5, e1]
     have hT2 : ia (rw_ 36 (lim 256 V)) p2 = (t2 : Int) := by rw [rw_at' _ _ _ q10, e2]
     have HJ := hDx (And.intro es1 (And.intro es2 (And.intro hlt b1)))
     clear es1 es2 hVL hVH hlt e0 e1 e2 b1 b3 q5 q10
     go_upto_region 21 with fail
     obtain ⟨ww6, hv6⟩ := nm (World.setCell wr ⟨LO, a, none⟩ (.int .u64 ((t0 : Int))))
     have HK6 : Hid (KS [(HI_, .cells (lk .u64 VH) 127), (LO, .cells (lk .u64 (VL.set a (t0 : Int))) 127), (T, .cells (lk .u64 (rw_ 36 (lim 256 V))) 172), (R, .cells (lk .u64 (zi 18)) 127), (B, .cells (lk .u64 (rw_ 18 g)) 127), (A, .cells (lk .u64 (rw_ 18 f)) 127)] [] w ww6) := by rw [hv6]; exact hDx (HK5.out.setK 1 rfl a ((t0 : Int)))
     rw [← hv6]
     clear hv6
     clear z0 d0 c0
     have z0 := (HK6.out.rk 0 rfl lVH).fz
     have d0 := (HK6.out.rk 0 rfl lVH).cell a HJ.out.2.2.2
     have c1 := (HK6.out.rk 2 rfl (rw_len' _ _)).cell p1 (by exact Int.ofNat_lt.1 q4)
     have c2 := (HK6.out.rk 2 rfl (rw_len' _ _)).cell p2 (by exact Int.ofNat_lt.1 q9)
     rw [hT1] at c1
     rw [hT2] at c2
     clear hT1 hT2
     go_still_tail 14, (by kernel_rfl)
     go_upto_region 19 with fail
     obtain ⟨ww7, hv7⟩ := nm (World.drew (World.setCell ww6 ⟨HI_, a, none⟩ (.int .u64 ((hh : Int)))))
     have HK7 : Hid (KS [(HI_, .cells (lk .u64 (VH.set a (hh : Int))) 127), (LO, .cells (lk .u64 (VL.set a (t0 : Int))) 127), (T, .cells (lk .u64 (rw_ 36 (lim 256 V))) 172), (R, .cells (lk .u64 (zi 18)) 127), (B, .cells (lk .u64 (rw_ 18 g)) 127), (A, .cells (lk .u64 (rw_ 18 f)) 127)] [] w ww7) := by rw [hv7]; exact hDx ((HK6.out.setK 0 rfl a ((hh : Int))).drew)
     rw [← hv7]
     clear hv7
     clear z0 d0 c1 c2 k1 k2 k3 k4 q1 q2 q6 q7
     rw [← HJ.out.1, ← HJ.out.2.1] at HK7
     go_wp2_with fail
     go_roundw
     case rel =>
      exact ⟨a + 1, HJ.out.2.2.1, by first | rfl | go_num, HK7.out⟩
     exact measI 17 _ HJ.out.2.2.1
    obtain rfl : a = 17 := by omega
    try simp only [Int.cast_ofNat_Int]
    rw [hiP_all] at HK5
    obtain ⟨x, y, e1, k1, es⟩ := l16_i V
    have c0 := (HK5.out.rk 1 rfl (rw_len' _ _)).cell 16 (by decide)
    rw [e1] at c0
    obtain ⟨VL, hVL⟩ := nm (rw_ 18 (loP V 17))
    have lVL : VL.length = 18 := by rw [hVL, rw_len']
    rw [← hVL] at HK5
    rw [← hVL] at es
    have z0 := (HK5.out.rk 1 rfl lVL).fz
    replace es := hDx es
    clear hVL e1
    go_upto_region 23 with fail
    obtain ⟨ww6, hv6⟩ := nm (World.setCell wr ⟨LO, 16, none⟩ (.int .u64 ((y : Int))))
    have HK6 : Hid (KS [(HI_, .cells (lk .u64 (rw_ 18 (hiR V))) 127), (LO, .cells (lk .u64 (VL.set 16 (y : Int))) 127), (T, .cells (lk .u64 (rw_ 36 (lim 256 V))) 172), (R, .cells (lk .u64 (zi 18)) 127), (B, .cells (lk .u64 (rw_ 18 g)) 127), (A, .cells (lk .u64 (rw_ 18 f)) 127)] [] w ww6) := by rw [hv6]; exact hDx (HK5.out.setK 1 rfl 16 ((y : Int)))
    rw [← hv6]
    clear hv6
    clear c0 z0 k1
    rw [← es.out] at HK6
    clear es lVL
    go_upto_region 24 with fail
    go_loopw [14] (fun vS wr => ∃ a : Nat, a ≤ 18 ∧ vS = .int .i64 (a : Int) ∧ KS [(HI_, .cells (lk .u64 (rw_ 18 (hiR V))) 127), (LO, .cells (lk .u64 (rw_ 18 (mdP V a))) 127), (T, .cells (lk .u64 (rw_ 36 (lim 256 V))) 172), (R, .cells (lk .u64 (zi 18)) 127), (B, .cells (lk .u64 (rw_ 18 g)) 127), (A, .cells (lk .u64 (rw_ 18 f)) 127)] [] w wr) (fun vS _ => 18 - (intOf vS).toNat)
    case atStart => exact ⟨0, Nat.zero_le _, rfl, HK6.out⟩
    obtain ⟨a, ha, rfl, HK⟩ := hrel
    have HK7 := hDx HK
    clear HK
    by_cases hlt : a < 18
    ·have ha1 : (0 : Int) ≤ a := by omega
     have ha2 : (a : Int) < 18 := by omega
     obtain ⟨ha3, ha4⟩ := i64w (x := (a : Int) + 1) (n := a + 1) (by omega) (by omega)
     obtain ⟨x, y, p, v, e1, e2, k1, k2, es⟩ := md_i V a hlt
     have c0 := (HK7.out.rk 1 rfl (rw_len' _ _)).cell a hlt
     have c1 := (HK7.out.rk 0 rfl (rw_len' _ _)).cell a hlt
     rw [e1] at c0
     rw [e2] at c1
     obtain ⟨VL, hVL⟩ := nm (rw_ 18 (mdP V a))
     have lVL : VL.length = 18 := by rw [hVL, rw_len']
     rw [← hVL] at HK7
     rw [← hVL] at es
     have z0 := (HK7.out.rk 1 rfl lVL).fz
     have HJ := hDx (And.intro es hlt)
     clear es hVL e1 e2 hlt
     go_upto_region 26 with fail
     go_still_tail 10, (by kernel_rfl)
     go_upto_region 25 with fail
     obtain ⟨ww8, hv8⟩ := nm (World.drew (World.setCell wr ⟨LO, a, none⟩ (.int .u64 ((v : Int)))))
     have HK8 : Hid (KS [(HI_, .cells (lk .u64 (rw_ 18 (hiR V))) 127), (LO, .cells (lk .u64 (VL.set a (v : Int))) 127), (T, .cells (lk .u64 (rw_ 36 (lim 256 V))) 172), (R, .cells (lk .u64 (zi 18)) 127), (B, .cells (lk .u64 (rw_ 18 g)) 127), (A, .cells (lk .u64 (rw_ 18 f)) 127)] [] w ww8) := by rw [hv8]; exact hDx ((HK7.out.setK 1 rfl a ((v : Int))).drew)
     rw [← hv8]
     clear hv8
     clear c0 c1 z0 k1 k2
     rw [← HJ.out.1] at HK8
     go_wp2_with fail
     go_roundw
     case rel =>
      exact ⟨a + 1, HJ.out.2, by first | rfl | go_num, HK8.out⟩
     exact measI 18 _ HJ.out.2
    obtain rfl : a = 18 := by omega
    try simp only [Int.cast_ofNat_Int]
    rw [mdP_all] at HK7
    have FL := (HK7.out.rk 1 rfl (rw_len' _ _))
    go_wp2_with (with_reducible show wpList _ _ _ _ _ _; refine wpList_load_rk (b := LO) rfl _ rfl rfl FL ty127 ?_)
    refine (rcarry_any _ (mdR_bq V) _).mono ?_
    rintro e ww8 ⟨rfl, B1⟩
    simp only []
    have HK8 := hDx (HK7.out.call B1)
    clear B1
    clear FL
    have FR := (HK8.out.rk 3 rfl (zi_len 18))
    go_wp2_with (with_reducible show wpList _ _ _ _ _ _; refine wpList_store_rk rfl _ _ rfl rfl rfl FR ty127 (rw_len' _ _) ?_)
    have KE := HK8.out.setRow 3 rfl (lk .u64 (rw_ 18 (lim 256 (cN (mdR V)))))
    try simp only [Exit.inBlock, Exit.then]
    refine bodyPost_ret (results_rk (p := 4) (by kernel_rfl) (by rfl) (KE.rk 3 rfl (rw_len' _ _)) ty127) rfl ?_
    exact ⟨rfl, KE.below⟩
theorem cN_small {n : Nat} (h : n < 1361129467683753853853498429727072845824) : cN (lim 256 n) = n := by
 unfold cN
 rw [vs_lim18 h]
 have e : rho n = n := by
  unfold rho
  rw [Nat.mod_eq_of_lt h, Nat.div_eq_of_lt h, Nat.mul_zero, Nat.add_zero]
 rw [e, e, e]
theorem lim_bq (n : Nat) : Bq (lim 256 n) := Bq.of fun j _ => by have := lim_lt (b := 256) (by decide) n j; omega
theorem p5_i (n : Nat) : ∃ x y : Nat, lim 256 n 0 = x ∧ IntKind.u64.wrap ((x : Int) + 5) = y ∧ rw_ 18 (plus5R (lim 256 n)) = (rw_ 18 (lim 256 n)).set 0 (y : Int) ∧ ∀ j, j < 18 → plus5R (lim 256 n) j ≤ 536870912 := by
 have h0 := lim_lt (b := 256) (by decide) n 0
 refine ⟨lim 256 n 0, lim 256 n 0 + 5, rfl, u64w (by omega) (by omega), by rw [rw_set]; rfl, fun j hj => ?_⟩
 have h1 := lim_lt (b := 256) (by decide) n j
 unfold plus5R upd
 split <;> omega
theorem p5_row {n : Nat} (h : n < 1361129467683753853853498429727072845824) : rw_ 18 (gF 256 (plus5R (lim 256 n)) 18) = rw_ 18 (lim 256 (n + 5)) := rw_ext fun j hj => by
 rw [gF_lim (by decide) _ hj, p5R_v, vs_lim18 h]
theorem p16_i {n : Nat} (h : n < 1361129467683753853853498429727072845824) : ∃ x y : Nat, lim 256 (n + 5) 16 = x ∧ bits .and .u64 (x : Int) 3 = y ∧ (4 ≤ x → rw_ 18 (lim 256 (n % Q)) = (rw_ 18 (lim 256 (n + 5))).set 16 (y : Int)) ∧ (¬ 4 ≤ x → rw_ 18 (lim 256 (n % Q)) = rw_ 18 (lim 256 n)) := by
 have h1 := lim_lt (b := 256) (by decide) (n + 5) 16
 refine ⟨_, lim 256 (n + 5) 16 % 4, rfl, and_mask _ 3 2 rfl (by decide) (by omega), fun h4 => ?_, fun h4 => ?_⟩
 ·rw [rw_set]
  exact rw_ext fun j hj => (redR_yes h h4 j hj).symm
 rw [redR_no h h4]
theorem ge4 {x : Nat} (h : 4 ≤ x) : (4 : Int) ≤ x := by omega
theorem nge4 {x : Nat} (h : ¬ 4 ≤ x) : ¬ (4 : Int) ≤ x := by omega
theorem rwhole_any (n : Nat) (hn : n < 1361129467683753853853498429727072845824) (w : World) : Calls Tryz.prog 71 #[.agg (lk .u64 (rw_ 18 (lim 256 n)))] w fun e w' => e = .returned (.agg (lk .u64 (rw_ 18 (lim 256 (n % Q))))) ∧ Below w.heap.size w w' := by
 have HN := hDx hn
 clear hn
 go_enter Tryz.func71, Tryz.ntmps71
 have HK0 := hDx (KS.start w)
 go_upto_region 1 with (fail)
 have hm1 := ((HK0.out.made (.cells (lk .u64 (rw_ 18 (lim 256 n))) 127)).made (.cells ZRu64x18 127))
 try rw [show ((World.alloc w (.cells (lk .u64 (rw_ 18 (lim 256 n))) 127))).heap.size = w.heap.size + 1 by simp] at hm1
 obtain ⟨R, hgR⟩ := nm (w.heap.size + 1)
 obtain ⟨A, hgA⟩ := nm w.heap.size
 obtain ⟨ww1, hv1⟩ := nm (World.alloc (World.alloc w (.cells (lk .u64 (rw_ 18 (lim 256 n))) 127)) (.cells ZRu64x18 127))
 rw [← hv1, ← hgR, ← hgA] at hm1
 rw [← hv1]
 try rw [← hgR]
 try rw [← hgA]
 have HK1 : Hid (KS [(R, .cells (lk .u64 (zi 18)) 127), (A, .cells (lk .u64 (rw_ 18 (lim 256 n))) 127)] [] w ww1) := hDx hm1
 clear hm1 hv1 hgA hgR
 have FA := (HK1.out.rk 1 rfl (rw_len' _ _))
 go_wp2_with (with_reducible show wpList _ _ _ _ _ _; refine wpList_load_rk (b := A) rfl _ rfl rfl FA ty127 ?_)
 refine (rcarry_any _ (lim_bq n) _).mono ?_
 rintro e ww2 ⟨rfl, B1⟩
 simp only []
 have HK2 := hDx (HK1.out.call B1)
 clear B1
 rw [cN_small HN.out]
 clear FA
 have FS := (HK2.out.rk 1 rfl (rw_len' _ _))
 go_upto_region 2 with (refine wpList_store_rk rfl _ _ rfl rfl rfl FS ty127 (rw_len' _ _) ?_)
 obtain ⟨ww3, hv3⟩ := nm (World.setRow ww2 A (lk .u64 (rw_ 18 (lim 256 n))))
 have HK3 : Hid (KS [(R, .cells (lk .u64 (zi 18)) 127), (A, .cells (lk .u64 (rw_ 18 (lim 256 n))) 127)] [] w ww3) := by rw [hv3]; exact hDx (HK2.out.setRow 1 rfl _)
 rw [← hv3]
 clear hv3
 clear FS
 have FA := (HK3.out.rk 1 rfl (rw_len' _ _))
 have FH4 := rk_new ww3 127 18 .u64 (zi 18) (zi_len 18)
 go_upto_region 3 with (first | (with_reducible show wpList _ _ _ _ _ _; refine wpList_load_rk (b := A) rfl _ rfl rfl FA ty127 ?_) | (refine wpList_store_rk rfl _ _ rfl rfl rfl FH4 ty127 (rw_len' _ _) ?_))
 have hm4 := (HK3.out.made (.cells ZRu64x18 127)).setRow 0 rfl (lk .u64 (rw_ 18 (lim 256 n)))
 obtain ⟨Y, hgY⟩ := nm ww3.heap.size
 obtain ⟨ww4, hv4⟩ := nm (World.setRow (World.alloc ww3 (.cells ZRu64x18 127)) ww3.heap.size (lk .u64 (rw_ 18 (lim 256 n))))
 rw [← hv4, ← hgY] at hm4
 rw [← hv4]
 try rw [← hgY]
 have HK4 : Hid (KS [(Y, .cells (lk .u64 (rw_ 18 (lim 256 n))) 127), (R, .cells (lk .u64 (zi 18)) 127), (A, .cells (lk .u64 (rw_ 18 (lim 256 n))) 127)] [] w ww4) := hDx hm4
 clear hm4 hv4 hgY
 clear FA
 obtain ⟨x, y, e1, k1, es, bG⟩ := p5_i n
 have c0 := (HK4.out.rk 0 rfl (rw_len' _ _)).cell 0 (by decide)
 have z0 := (HK4.out.rk 0 rfl (rw_len' _ _)).fz
 rw [rw_at' _ _ _ (by decide), e1] at c0
 replace es := hDx es
 clear e1
 go_upto_region 4 with fail
 obtain ⟨ww5, hv5⟩ := nm (World.setCell ww4 ⟨Y, 0, none⟩ (.int .u64 ((y : Int))))
 have HK5 : Hid (KS [(Y, .cells (lk .u64 ((rw_ 18 (lim 256 n)).set 0 (y : Int))) 127), (R, .cells (lk .u64 (zi 18)) 127), (A, .cells (lk .u64 (rw_ 18 (lim 256 n))) 127)] [] w ww5) := by rw [hv5]; exact hDx (HK4.out.setK 0 rfl 0 ((y : Int)))
 rw [← hv5]
 clear hv5
 rw [← es.out, ← gF_zero 256 (plus5R (lim 256 n))] at HK5
 clear c0 z0 es k1
 obtain ⟨G, hG⟩ := nm (plus5R (lim 256 n))
 have hr := p5_row HN.out
 rw [← hG] at HK5 bG hr
 clear hG
 have HG := hDx (And.intro bG hr)
 clear bG hr
 go_upto_region 6 with fail
 go_loopw [4, 5] (fun vX vS wr => ∃ i : Nat, i ≤ 18 ∧ vS = .int .i64 (i : Int) ∧ vX = .int .u64 (gC 256 G i : Int) ∧ KS [(Y, .cells (lk .u64 (rw_ 18 (gF 256 G i))) 127), (R, .cells (lk .u64 (zi 18)) 127), (A, .cells (lk .u64 (rw_ 18 (lim 256 n))) 127)] [] w wr) (fun vX vS _ => 18 - (intOf vS).toNat)
 case atStart => exact ⟨0, Nat.zero_le _, rfl, rfl, HK5.out⟩
 obtain ⟨i, hi, rfl, rfl, HK⟩ := hrel
 have HK6 := hDx HK
 clear HK
 by_cases hlt : i < 18
 ·have hi1 : (0 : Int) ≤ i := by omega
  have hi2 : (i : Int) < 18 := by omega
  obtain ⟨hi3, hi4⟩ := i64w (x := (i : Int) + 1) (n := i + 1) (by omega) (by omega)
  obtain ⟨x, r, q, k1, k2, k3, k4, k5, k6⟩ := rc_i (m := 18) (n := 18) HG.out.1 hlt
  have c0 := (HK6.out.rk 0 rfl (rw_len' _ _)).cell i hlt
  rw [rw_at' _ _ _ hlt, k6] at c0
  obtain ⟨gk, hgk⟩ := nm (G i)
  obtain ⟨ck, hck⟩ := nm (gC 256 G i)
  rw [← hgk] at c0 k1
  rw [← hck] at k1
  rw [← hck]
  obtain ⟨V, hV⟩ := nm (rw_ 18 (gF 256 G i))
  have lV : V.length = 18 := by rw [hV, rw_len']
  rw [← hV] at HK6
  rw [← hV] at k5
  have z0 := (HK6.out.rk 0 rfl lV).fz
  have HJ := hDx (And.intro k4 (And.intro k5 hlt))
  clear hgk hck hV k4 k5 k6 hlt
  go_upto_region 7 with fail
  obtain ⟨ww7, hv7⟩ := nm (World.setCell wr ⟨Y, i, none⟩ (.int .u64 ((r : Int))))
  have HK7 : Hid (KS [(Y, .cells (lk .u64 (V.set i (r : Int))) 127), (R, .cells (lk .u64 (zi 18)) 127), (A, .cells (lk .u64 (rw_ 18 (lim 256 n))) 127)] [] w ww7) := by rw [hv7]; exact hDx (HK6.out.setK 0 rfl i ((r : Int)))
  rw [← hv7]
  clear hv7
  rw [← HJ.out.2.1] at HK7
  clear c0 z0 k1 k2 k3 lV
  go_wp2_with fail
  go_roundw
  case rel =>
   exact ⟨i + 1, HJ.out.2.2, by first | rfl | go_num, by rw [HJ.out.1], HK7.out⟩
  exact measI 18 _ HJ.out.2.2
 obtain rfl : i = 18 := by omega
 try simp only [Int.cast_ofNat_Int]
 rw [HG.out.2] at HK6
 obtain ⟨x, y, e1, k1, hy, hno⟩ := p16_i HN.out
 have c0 := (HK6.out.rk 0 rfl (rw_len' _ _)).cell 16 (by decide)
 have z0 := (HK6.out.rk 0 rfl (rw_len' _ _)).fz
 rw [rw_at' _ _ _ (by decide), e1] at c0
 clear e1
 by_cases h4 : 4 ≤ x
 ·have g4 := ge4 h4
  have es := hDx (hy h4)
  clear hy hno h4
  go_upto_region 13 with fail
  obtain ⟨ww7, hv7⟩ := nm (World.setCell wr ⟨Y, 16, none⟩ (.int .u64 ((y : Int))))
  have HK7 : Hid (KS [(Y, .cells (lk .u64 ((rw_ 18 (lim 256 (n + 5))).set 16 (y : Int))) 127), (R, .cells (lk .u64 (zi 18)) 127), (A, .cells (lk .u64 (rw_ 18 (lim 256 n))) 127)] [] w ww7) := by rw [hv7]; exact hDx (HK6.out.setK 0 rfl 16 ((y : Int)))
  rw [← hv7]
  clear hv7
  rw [← es.out] at HK7
  clear c0 z0 k1 es g4
  have FA := (HK7.out.rk 0 rfl (rw_len' _ _))
  have FR := (HK7.out.rk 1 rfl (zi_len 18))
  go_wp2_with (first | (refine wpList_load_rk rfl _ rfl rfl FA ty127 ?_) | (refine wpList_store_rk rfl _ _ rfl rfl rfl FR ty127 (rw_len' _ _) ?_))
  have KE := HK7.out.setRow 1 rfl (lk .u64 (rw_ 18 (lim 256 (n % Q))))
  try simp only [Exit.inBlock, Exit.then]
  refine bodyPost_ret (results_rk (p := 2) (by kernel_rfl) (by rfl) (KE.rk 1 rfl (rw_len' _ _)) ty127) rfl ?_
  exact ⟨rfl, KE.below⟩
 have g4 := nge4 h4
 have es := hno h4
 clear hy hno h4
 rw [← es] at HK6
 clear es
 go_upto_region 14 with fail
 clear c0 z0 k1 g4
 have FA := (HK6.out.rk 2 rfl (rw_len' _ _))
 have FR := (HK6.out.rk 1 rfl (zi_len 18))
 go_wp2_with (first | (refine wpList_load_rk rfl _ rfl rfl FA ty127 ?_) | (refine wpList_store_rk rfl _ _ rfl rfl rfl FR ty127 (rw_len' _ _) ?_))
 have KE := HK6.out.setRow 1 rfl (lk .u64 (rw_ 18 (lim 256 (n % Q))))
 try simp only [Exit.inBlock, Exit.then]
 refine bodyPost_ret (results_rk (p := 2) (by kernel_rfl) (by rfl) (KE.rk 1 rfl (rw_len' _ _)) ty127) rfl ?_
 exact ⟨rfl, KE.below⟩
end Go.Proofs.YtoplbfijodebmaaGreatDoor
