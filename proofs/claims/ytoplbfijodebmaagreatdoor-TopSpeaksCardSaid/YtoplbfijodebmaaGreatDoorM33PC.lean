/-
  The walk.
-/
import Derived.Test.YtoplbfijodebmaaGreatDoorM27PA
import Derived.Test.YtoplbfijodebmaaGreatDoorM32CH
set_option linter.unusedVariables false
set_option linter.unusedSimpArgs false
set_option maxRecDepth 100000
set_option maxHeartbeats 40000000
namespace Go.Proofs.YtoplbfijodebmaaGreatDoor
section
open Go.RowKit T
theorem ty156 : RowTy 156 5 := ⟨⟨29, by kernel_rfl⟩, by kernel_rfl⟩
def p1n (f : Nat → Nat) : Nat → Nat → Nat
 | 0 => f
 | p + 1 => p1 (p1n f p)
def Bg (f : Nat → Nat) : Prop := ∀ j, j < 5 → f j ≤ 576460752303423488
theorem p1n_bg {f : Nat → Nat} (h : Bg f) : ∀ p, Bg (p1n f p)
 | 0 => h
 | p + 1 => (p1_big (p1n_bg h p)).2.2
theorem and26 (x : Nat) (hx : x < 18446744073709551616) : bits .and .u64 (x : Int) 67108863 = ((x % 67108864 : Nat) : Int) := and_mask x 67108863 26 rfl (by decide) hx
theorem set_set' (V : List Int) (k : Nat) (x y : Int) : (V.set k x).set k y = V.set k y := List.set_set ..
theorem pc_i {f : Nat → Nat} (hf : Bg f) {k : Nat} (hk : k < 5) : ∃ x r q : Nat, IntKind.u64.wrap ((f k : Int) + (gC 67108864 f k : Int)) = x ∧ bits .and .u64 (x : Int) 67108863 = r ∧ Op.shift .shr .u64 (x : Int) .u64 26 = pure (.int .u64 (q : Int)) ∧ gC 67108864 f (k + 1) = q ∧ rw_ 5 (gF 67108864 f (k + 1)) = (rw_ 5 (gF 67108864 f k)).set k (r : Int) ∧ gF 67108864 f k k = f k := by
 have h1 := hf k hk
 have h2 := p1_c hf k (by omega)
 refine ⟨f k + gC 67108864 f k, (f k + gC 67108864 f k) % 67108864, (f k + gC 67108864 f k) / 67108864, u64w (by omega) (by omega), and26 _ (by omega), ?_, rfl, by rw [rw_set, gF_upd], gF_at _ _ _⟩
 rw [shift_shr _ _ _ _ (by decide) (by decide)]
 congr 2
theorem pf_i {f : Nat → Nat} (hf : Bg f) : ∃ y s : Nat, IntKind.u64.wrap (5 * (gC 67108864 f 5 : Int)) = y ∧ IntKind.u64.wrap ((gF 67108864 f 5 0 : Int) + (y : Int)) = s ∧ rw_ 5 (p1 f) = (rw_ 5 (gF 67108864 f 5)).set 0 (s : Int) := by
 have h2 := p1_c hf 5 (Nat.le_refl _)
 have h3 := gF_lt (b := 67108864) (by decide) f (k := 5) (j := 0) (by decide)
 refine ⟨5 * gC 67108864 f 5, gF 67108864 f 5 0 + 5 * gC 67108864 f 5, u64w (by omega) (by omega), u64w (by omega) (by omega), ?_⟩
 rw [rw_set]
 rfl
theorem pcarried_any (f : Nat → Nat) (hf : Bg f) (w : World) : Calls Tryz.prog 94 #[.agg (lk .u64 (rw_ 5 f))] w fun e w' => e = .returned (.agg (lk .u64 (rw_ 5 (car f)))) ∧ Below w.heap.size w w' := by
 replace hf := hDx hf
 go_enter Tryz.func94, Tryz.ntmps94
 have HK0 := hDx (KS.start w)
 go_upto_region 1 with (fail)
 have hm1 := ((HK0.out.made (.cells (lk .u64 (rw_ 5 f)) 156)).made (.cells #[.int .u64 0, .int .u64 0, .int .u64 0, .int .u64 0, .int .u64 0] 156))
 try rw [show ((World.alloc w (.cells (lk .u64 (rw_ 5 f)) 156))).heap.size = w.heap.size + 1 by simp] at hm1
 obtain ⟨R, hgR⟩ := nm (w.heap.size + 1)
 obtain ⟨A, hgA⟩ := nm w.heap.size
 obtain ⟨ww1, hv1⟩ := nm (World.alloc (World.alloc w (.cells (lk .u64 (rw_ 5 f)) 156)) (.cells #[.int .u64 0, .int .u64 0, .int .u64 0, .int .u64 0, .int .u64 0] 156))
 rw [← hv1, ← hgR, ← hgA] at hm1
 rw [← hv1]
 try rw [← hgR]
 try rw [← hgA]
 have HK1 : Hid (KS [(R, .cells (lk .u64 (zi 5)) 156), (A, .cells (lk .u64 (rw_ 5 (p1n f 0))) 156)] [] w ww1) := hDx hm1
 clear hm1 hv1 hgA hgR
 go_upto_region 2 with fail
 go_loopw [5] (fun vS wr => ∃ p : Nat, p ≤ 2 ∧ vS = .int .i64 (p : Int) ∧ KS [(R, .cells (lk .u64 (zi 5)) 156), (A, .cells (lk .u64 (rw_ 5 (p1n f p))) 156)] [] w wr) (fun vS _ => 2 - (intOf vS).toNat)
 case atStart => exact ⟨0, Nat.zero_le _, rfl, HK1.out⟩
 case round =>
  obtain ⟨p, hp, rfl, HK⟩ := hrel
  have HK2 := hDx HK
  clear HK
  by_cases hlt : p < 2
  ·have hp1 : (0 : Int) ≤ p := by omega
   have hp2 : (p : Int) < 2 := by omega
   obtain ⟨hp3, hp4⟩ := i64w (x := (p : Int) + 1) (n := p + 1) (by omega) (by omega)
   obtain ⟨G, hG⟩ := nm (p1n f p)
   have bG : Bg G := by rw [hG]; exact p1n_bg hf.out p
   have hs : p1n f (p + 1) = p1 G := by rw [hG]; rfl
   rw [← hG, ← gF_zero 67108864 G] at HK2
   clear hG
   have HO := hDx (And.intro hs (And.intro hlt bG))
   clear hs hlt bG
   go_upto_region 5 with fail
   go_loopw [3, 7] (fun vX vS wr => ∃ k : Nat, k ≤ 5 ∧ vS = .int .i64 (k : Int) ∧ vX = .int .u64 (gC 67108864 G k : Int) ∧ KS [(R, .cells (lk .u64 (zi 5)) 156), (A, .cells (lk .u64 (rw_ 5 (gF 67108864 G k))) 156)] [] w wr) (fun vX vS _ => 5 - (intOf vS).toNat)
   case atStart => exact ⟨0, Nat.zero_le _, rfl, rfl, HK2.out⟩
   obtain ⟨k, hk, rfl, rfl, HK⟩ := hrel
   have HK3 := hDx HK
   clear HK
   by_cases hlt : k < 5
   ·have hk1 : (0 : Int) ≤ k := by omega
    have hk2 : (k : Int) < 5 := by omega
    obtain ⟨hk3, hk4⟩ := i64w (x := (k : Int) + 1) (n := k + 1) (by omega) (by omega)
    obtain ⟨x, r, q, k1, k2, k3, k4, k5, k6⟩ := pc_i HO.out.2.2 hlt
    have c0 := (HK3.out.rk 1 rfl (rw_len' _ _)).cell k hlt
    rw [rw_at' _ _ _ hlt, k6] at c0
    obtain ⟨gk, hgk⟩ := nm (G k)
    obtain ⟨ck, hck⟩ := nm (gC 67108864 G k)
    rw [← hgk] at c0 k1
    rw [← hck] at k1
    rw [← hck]
    obtain ⟨V, hV⟩ := nm (rw_ 5 (gF 67108864 G k))
    have lV : V.length = 5 := by rw [hV, rw_len']
    rw [← hV] at HK3
    rw [← hV] at k5
    have z0 := (HK3.out.rk 1 rfl lV).fz
    have HJ := hDx (And.intro k4 (And.intro k5 hlt))
    clear hgk hck hV k4 k5 k6
    go_upto_region 8 with fail
    obtain ⟨ww4, hv4⟩ := nm (World.setCell wr ⟨A, k, none⟩ (.int .u64 ((x : Int))))
    have HK4 : Hid (KS [(R, .cells (lk .u64 (zi 5)) 156), (A, .cells (lk .u64 (V.set k (x : Int))) 156)] [] w ww4) := by rw [hv4]; exact hDx (HK3.out.setK 1 rfl k ((x : Int)))
    rw [← hv4]
    clear hv4
    clear c0 z0 k1
    have lV2 : (V.set k (x : Int)).length = 5 := by rw [List.length_set, lV]
    have e1 : ia (V.set k (x : Int)) k = (x : Int) := by rw [ia_set _ _ _ _ (by rw [lV]; exact hlt), if_pos rfl]
    try simp only [Act.put, sAx, s0x, s1x]
    refine wp_region_cvl 9 8 [16, 17, 18, 19, 20, 21, 22, 23, 24] [[], [], [17], [18], [19], [], [21], [22], [23]] [(16, .int .i64 (k : Int)), (17, .int .i64 (k : Int)), (18, .pointer (some ⟨A, k, none⟩)), (19, .int .u64 (x : Int)), (20, .int .u64 (r : Int)), (21, .int .i64 (k : Int)), (22, .pointer (some ⟨A, k, none⟩)), (23, .int .u64 (x : Int)), (24, .int .u64 (q : Int))] rfl (by kernel_rfl) (by kernel_rfl) (by rfl) (by kernel_rfl) 24 rfl rfl (by kernel_rfl) (fun _ _ _ _ h => h) ?hY ?hO ?hE
    case hY =>
     intro act u HB HO HA
     have e23 : _ = _ := qA HA 23
     exact ⟨.int .u64 (q : Int), fun w => run_shift rfl e23 rfl (Or.inl rfl) k3, rfl⟩
    case hO =>
     refine ⟨?_, ?_, ?_, ?_, ?_, ?_, ?_, ?_, ?_, trivial⟩
     ·intro act u HB HO HA
      have e4 := gE (x := .int .i64 (k : Int)) (HO 4 (by decide))
      refine calm_val 16 _ rfl ?_ rfl rfl
      clear HB HO HA
      go_simp
      try rfl
     ·intro act u HB HO HA
      have e4 := gE (x := .int .i64 (k : Int)) (HO 4 (by decide))
      refine calm_val 17 _ rfl ?_ rfl rfl
      clear HB HO HA
      go_simp
      try rfl
     ·intro act u HB HO HA
      have e1 := gE (x := .pointer (some ⟨A, 0, none⟩)) (HO 1 (by decide))
      have e17 : _ = _ := gE (qA HA 17)
      refine calm_val 18 _ rfl ?_ rfl rfl
      clear HB HO HA
      go_simp
      try rfl
     ·intro act u HB HO HA
      have e18 : _ = _ := gE (qA HA 18)
      have HS := HK4.out.drew.call HB
      have lT : u.cell? ⟨A, k, none⟩ = some (.int .u64 (x : Int)) := by
       have q := (HS.rk 1 rfl lV2).cell k hlt
       rw [e1] at q
       exact q
      refine calm_val 19 _ rfl ?_ rfl rfl
      clear HB HO HA HS
      go_simp
      try rfl
     ·intro act u HB HO HA
      have e19 : _ = _ := gE (qA HA 19)
      refine calm_val 20 _ rfl ?_ rfl rfl
      clear HB HO HA
      go_simp
      try rfl
     ·intro act u HB HO HA
      have e4 := gE (x := .int .i64 (k : Int)) (HO 4 (by decide))
      refine calm_val 21 _ rfl ?_ rfl rfl
      clear HB HO HA
      go_simp
      try rfl
     ·intro act u HB HO HA
      have e1 := gE (x := .pointer (some ⟨A, 0, none⟩)) (HO 1 (by decide))
      have e21 : _ = _ := gE (qA HA 21)
      refine calm_val 22 _ rfl ?_ rfl rfl
      clear HB HO HA
      go_simp
      try rfl
     ·intro act u HB HO HA
      have e22 : _ = _ := gE (qA HA 22)
      have HS := HK4.out.drew.call HB
      have lT : u.cell? ⟨A, k, none⟩ = some (.int .u64 (x : Int)) := by
       have q := (HS.rk 1 rfl lV2).cell k hlt
       rw [e1] at q
       exact q
      refine calm_val 23 _ rfl ?_ rfl rfl
      clear HB HO HA HS
      go_simp
      try rfl
     intro act u HB HO HA
     have e23 : _ = _ := qA HA 23
     exact calm_val 24 _ rfl (run_shift rfl e23 rfl (Or.inl rfl) k3) rfl rfl
    intro ww5 HB
    have HK5 := hDx (HK4.out.drew.call HB)
    simp only [fillL, Act.put, sAx, s0x, s1x, dSx, d0x]
    clear HB
    clear k2 k3 e1
    have z0 := (HK5.out.rk 1 rfl lV2).fz
    have c0 := (HK5.out.rk 1 rfl lV2).cell k hlt
    clear hlt
    go_upto_region 9 with fail
    obtain ⟨ww6, hv6⟩ := nm (World.setCell ww5 ⟨A, k, none⟩ (.int .u64 ((r : Int))))
    have HK6 : Hid (KS [(R, .cells (lk .u64 (zi 5)) 156), (A, .cells (lk .u64 ((V.set k (x : Int)).set k (r : Int))) 156)] [] w ww6) := by rw [hv6]; exact hDx (HK5.out.setK 1 rfl k ((r : Int)))
    rw [← hv6]
    clear hv6
    rw [set_set', ← HJ.out.2.1] at HK6
    clear lV lV2 z0 c0
    go_wp2_with fail
    go_roundw
    case rel =>
     exact ⟨k + 1, HJ.out.2.2, by first | rfl | go_num, by rw [HJ.out.1], HK6.out⟩
    exact measI 5 _ HJ.out.2.2
   obtain rfl : k = 5 := by omega
   try simp only [Int.cast_ofNat_Int]
   obtain ⟨y, x, k1, k2, k3⟩ := pf_i HO.out.2.2
   obtain ⟨ck, hck⟩ := nm (gC 67108864 G 5)
   rw [← hck]
   rw [← hck] at k1
   have c0 := (HK3.out.rk 1 rfl (rw_len' _ _)).cell 0 (by decide)
   rw [rw_at' _ _ _ (by decide)] at c0
   obtain ⟨g0, hg0⟩ := nm (gF 67108864 G 5 0)
   rw [← hg0] at c0 k2
   obtain ⟨V, hV⟩ := nm (rw_ 5 (gF 67108864 G 5))
   have lV : V.length = 5 := by rw [hV, rw_len']
   rw [← hV] at HK3
   rw [← hV] at k3
   have z0 := (HK3.out.rk 1 rfl lV).fz
   have HJ := hDx k3
   clear k3 hck hg0 hV
   go_upto_region 11 with fail
   obtain ⟨ww4, hv4⟩ := nm (World.setCell wr ⟨A, 0, none⟩ (.int .u64 ((x : Int))))
   have HK4 : Hid (KS [(R, .cells (lk .u64 (zi 5)) 156), (A, .cells (lk .u64 (V.set 0 (x : Int))) 156)] [] w ww4) := by rw [hv4]; exact hDx (HK3.out.setK 1 rfl 0 ((x : Int)))
   rw [← hv4]
   clear hv4
   clear c0 z0 k1 k2
   go_wp2_with fail
   go_roundw
   case rel =>
    exact ⟨p + 1, HO.out.2.1, by first | rfl | go_num, by rw [HO.out.1, HJ.out]; exact HK4.out⟩
   exact measI 2 _ HO.out.2.1
  obtain rfl : p = 2 := by omega
  try simp only [Int.cast_ofNat_Int]
  change Hid (KS [(R, .cells (lk .u64 (zi 5)) 156), (A, .cells (lk .u64 (rw_ 5 (car f))) 156)] [] w wr) at HK2
  have FA := (HK2.out.rk 1 rfl (rw_len' _ _))
  have FR := (HK2.out.rk 0 rfl (zi_len 5))
  go_wp2_with (first | (refine wpList_load_rk rfl _ rfl rfl FA ty156 ?_) | (refine wpList_store_rk rfl _ _ rfl rfl rfl FR ty156 (rw_len' _ _) ?_))
  have KE := HK2.out.setRow 0 rfl (lk .u64 (rw_ 5 (car f)))
  try simp only [Exit.inBlock, Exit.then]
  refine bodyPost_ret (results_rk (p := 2) (by kernel_rfl) (by rfl) (KE.rk 0 rfl (rw_len' _ _)) ty156) rfl ?_
  exact ⟨rfl, KE.below⟩
theorem idx156 {v : List Int} {i : Nat} (hv : v.length = 5) (hi : i < 5) (w : World) : (Instr.index 156 (.agg (lk .u64 v)) (.int .i64 (i : Int))).run Tryz.prog w = .ok (.int .u64 (ia v i)) w := run_index_lk (by kernel_rfl : Tryz.prog.underlying 156 = some (.array 5 29)) (by kernel_rfl : Tryz.prog.underlying 29 = some (.int .u64)) (by kernel_rfl) hv hi w
theorem pm_i {f g : Nat → Nat} (hf : ∀ j, j < 5 → f j ≤ 67108868) (hg : ∀ j, j < 5 → g j ≤ 67108864) {i k : Nat} (hi : i < 5) (hk : k < 5) : ∃ m b p s z : Nat, z = i + k ∧ IntKind.i64.wrap ((i : Int) + (k : Int)) = z ∧ wrap64 ((i : Int) + (k : Int)) = z ∧ m < 5 ∧ (0 : Int) ≤ m ∧ (m : Int) < 5 ∧ binOp .rem 3 (.int .i64 (z : Int)) (.int .i64 5) = pure (.int .i64 (m : Int)) ∧
  (5 ≤ z → IntKind.u64.wrap ((g k : Int) * 5) = b) ∧ (¬ 5 ≤ z → b = g k) ∧ IntKind.u64.wrap ((f i : Int) * (b : Int)) = p ∧ IntKind.u64.wrap ((tmF f g (5 * i + k) m : Int) + (p : Int)) = s ∧ rw_ 5 (tmF f g (5 * i + (k + 1))) = (rw_ 5 (tmF f g (5 * i + k))).set m (s : Int) := by
 have h1 := hf i hi
 have h2 := hg k hk
 obtain ⟨a1, a2⟩ := i64w (x := (i : Int) + (k : Int)) (n := i + k) (by omega) (by omega)
 have h4 := tmF_le hf hg (5 * i + k) (by omega) ((i + k) % 5)
 obtain ⟨b, hb⟩ := nm (if 5 ≤ i + k then g k * 5 else g k)
 have hb5 : b ≤ 335544320 := by rw [hb]; split <;> omega
 have h3 : f i * b ≤ 67108868 * 335544320 := Nat.mul_le_mul h1 hb5
 have h5 : (5 * i + k) * 22517999613648896 ≤ 24 * 22517999613648896 := Nat.mul_le_mul_right _ (by omega)
 refine ⟨(i + k) % 5, b, f i * b, tmF f g (5 * i + k) ((i + k) % 5) + f i * b, i + k, rfl, a2, a1, Nat.mod_lt _ (by decide), by omega, by omega, rem_i 3 (i + k) 5 _ (by decide) rfl (by omega), fun h => ?_, fun h => by rw [hb, if_neg h], u64w (by push_cast; rfl) (by omega), u64w (by omega) (by omega), ?_⟩
 ·rw [hb, if_pos h]
  exact u64w (by push_cast; rfl) (by omega)
 rw [rw_set, ← Nat.add_assoc, tmF, show (5 * i + k) / 5 = i by omega, show (5 * i + k) % 5 = k by omega, ← hb]
theorem ge5 {z : Nat} (h : 5 ≤ z) : (5 : Int) ≤ z := by omega
theorem nge5 {z : Nat} (h : ¬ 5 ≤ z) : ¬ (5 : Int) ≤ z := by omega
theorem ptimes_any (f g : Nat → Nat) (hf : ∀ j, j < 5 → f j ≤ 67108868) (hg : ∀ j, j < 5 → g j ≤ 67108864) (w : World) : Calls Tryz.prog 95 #[.agg (lk .u64 (rw_ 5 f)), .agg (lk .u64 (rw_ 5 g))] w fun e w' => e = .returned (.agg (lk .u64 (rw_ 5 (car (tmF f g 25))))) ∧ Below w.heap.size w w' := by
 have HB := hDx (And.intro hf hg)
 clear hf hg
 go_enter Tryz.func95, Tryz.ntmps95
 have HK0 := hDx (KS.start w)
 go_upto_region 1 with (fail)
 have hm1 := (((HK0.out.made (.cells (lk .u64 (rw_ 5 f)) 156)).made (.cells (lk .u64 (rw_ 5 g)) 156)).made (.cells #[.int .u64 0, .int .u64 0, .int .u64 0, .int .u64 0, .int .u64 0] 156))
 try rw [show ((World.alloc (World.alloc w (.cells (lk .u64 (rw_ 5 f)) 156)) (.cells (lk .u64 (rw_ 5 g)) 156))).heap.size = w.heap.size + 2 by simp] at hm1
 try rw [show ((World.alloc w (.cells (lk .u64 (rw_ 5 f)) 156))).heap.size = w.heap.size + 1 by simp] at hm1
 obtain ⟨Z, hgZ⟩ := nm (w.heap.size + 2)
 obtain ⟨B, hgB⟩ := nm (w.heap.size + 1)
 obtain ⟨A, hgA⟩ := nm w.heap.size
 obtain ⟨ww1, hv1⟩ := nm (World.alloc (World.alloc (World.alloc w (.cells (lk .u64 (rw_ 5 f)) 156)) (.cells (lk .u64 (rw_ 5 g)) 156)) (.cells #[.int .u64 0, .int .u64 0, .int .u64 0, .int .u64 0, .int .u64 0] 156))
 rw [← hv1, ← hgZ, ← hgB, ← hgA] at hm1
 rw [← hv1]
 try rw [← hgZ]
 try rw [← hgB]
 try rw [← hgA]
 have HK1 : Hid (KS [(Z, .cells (lk .u64 (rw_ 5 (tmF f g (5 * 0)))) 156), (B, .cells (lk .u64 (rw_ 5 g)) 156), (A, .cells (lk .u64 (rw_ 5 f)) 156)] [] w ww1) := hDx hm1
 clear hm1 hv1 hgA hgB hgZ
 have FA := (HK1.out.rk 2 rfl (rw_len' _ _))
 go_upto_region 2 with (with_reducible show wpList _ _ _ _ _ _; refine wpList_load_rk (b := A) rfl _ rfl rfl FA ty156 ?_)
 clear FA
 go_loopw [10] (fun vS wr => ∃ i : Nat, i ≤ 5 ∧ vS = .int .i64 (i : Int) ∧ KS [(Z, .cells (lk .u64 (rw_ 5 (tmF f g (5 * i)))) 156), (B, .cells (lk .u64 (rw_ 5 g)) 156), (A, .cells (lk .u64 (rw_ 5 f)) 156)] [] w wr) (fun vS _ => 5 - (intOf vS).toNat)
 case atStart => exact ⟨0, Nat.zero_le _, rfl, HK1.out⟩
 case round =>
  obtain ⟨i, hi, rfl, HK⟩ := hrel
  have HK2 := hDx HK
  clear HK
  by_cases hlt : i < 5
  ·have hi1 : (0 : Int) ≤ i := by omega
   have hi2 : (i : Int) < 5 := by omega
   obtain ⟨hi3, hi4⟩ := i64w (x := (i : Int) + 1) (n := i + 1) (by omega) (by omega)
   have ix := fun u => idx156 (rw_len' 5 f) hlt u
   rw [rw_at' _ _ _ hlt] at ix
   obtain ⟨x, hx⟩ := nm (f i)
   rw [← hx] at ix
   replace hx := hDx hx
   have HI := hDx hlt
   clear hlt
   have FB := (HK2.out.rk 1 rfl (rw_len' _ _))
   go_upto_region 5 with (with_reducible show wpList _ _ _ _ _ _; refine wpList_load_rk (b := B) rfl _ rfl rfl FB ty156 ?_)
   clear FB ix
   change Hid (KS [(Z, .cells (lk .u64 (rw_ 5 (tmF f g (5 * i + 0)))) 156), (B, .cells (lk .u64 (rw_ 5 g)) 156), (A, .cells (lk .u64 (rw_ 5 f)) 156)] [] w wr) at HK2
   go_loopw [15] (fun vS wr => ∃ k : Nat, k ≤ 5 ∧ vS = .int .i64 (k : Int) ∧ KS [(Z, .cells (lk .u64 (rw_ 5 (tmF f g (5 * i + k)))) 156), (B, .cells (lk .u64 (rw_ 5 g)) 156), (A, .cells (lk .u64 (rw_ 5 f)) 156)] [] w wr) (fun vS _ => 5 - (intOf vS).toNat)
   case atStart => exact ⟨0, Nat.zero_le _, rfl, HK2.out⟩
   obtain ⟨k, hk, rfl, HK⟩ := hrel
   have HK3 := hDx HK
   clear HK
   by_cases hlt : k < 5
   ·have hk1 : (0 : Int) ≤ k := by omega
    have hk2 : (k : Int) < 5 := by omega
    obtain ⟨hk3, hk4⟩ := i64w (x := (k : Int) + 1) (n := k + 1) (by omega) (by omega)
    obtain ⟨m, b, p, v, zz, hz, i1, i2, m5, m1, m2, hrem, hb1, hb2, k1, k2, es⟩ := pm_i HB.out.1 HB.out.2 HI.out hlt
    have ix := fun u => idx156 (rw_len' 5 g) hlt u
    rw [rw_at' _ _ _ hlt] at ix
    have c0 := (HK3.out.rk 0 rfl (rw_len' _ _)).cell m m5
    rw [rw_at' _ _ _ m5] at c0
    obtain ⟨y, hy⟩ := nm (g k)
    obtain ⟨t0, ht0⟩ := nm (tmF f g (5 * i + k) m)
    rw [← hx.out] at k1
    rw [← hy] at hb1 hb2 ix
    rw [← ht0] at c0 k2
    obtain ⟨V, hV⟩ := nm (rw_ 5 (tmF f g (5 * i + k)))
    have lV : V.length = 5 := by rw [hV, rw_len']
    rw [← hV] at HK3
    rw [← hV] at es
    have z0 := (HK3.out.rk 0 rfl lV).fz
    have HJ := hDx (And.intro es hlt)
    replace hz := hDx hz
    clear es hV hy ht0 hlt m5 hz
    by_cases h5 : 5 ≤ zz
    ·have hc := ge5 h5
     have hb := hb1 h5
     clear hb1 hb2 h5
     go_upto_region 10 with (first | (with_reducible show Oper.wp _ _ _ _ _ _; refine wp_bin hrem rfl rfl rfl ?_))
     obtain ⟨ww4, hv4⟩ := nm (World.setCell wr ⟨Z, m, none⟩ (.int .u64 ((v : Int))))
     have HK4 : Hid (KS [(Z, .cells (lk .u64 (V.set m (v : Int))) 156), (B, .cells (lk .u64 (rw_ 5 g)) 156), (A, .cells (lk .u64 (rw_ 5 f)) 156)] [] w ww4) := by rw [hv4]; exact hDx (HK3.out.setK 0 rfl m ((v : Int)))
     rw [← hv4]
     clear hv4
     clear c0 z0 k1 k2 m1 m2 hrem ix hc i1 i2 hb
     go_wp2_with fail
     go_roundw
     case rel =>
      exact ⟨k + 1, HJ.out.2, by first | rfl | go_num, by rw [HJ.out.1]; exact HK4.out⟩
     exact measI 5 _ HJ.out.2
    have hc := nge5 h5
    have hb := hb2 h5
    subst hb
    clear hb1 hb2 h5
    go_upto_region 10 with (first | (with_reducible show Oper.wp _ _ _ _ _ _; refine wp_bin hrem rfl rfl rfl ?_))
    obtain ⟨ww4, hv4⟩ := nm (World.setCell wr ⟨Z, m, none⟩ (.int .u64 ((v : Int))))
    have HK4 : Hid (KS [(Z, .cells (lk .u64 (V.set m (v : Int))) 156), (B, .cells (lk .u64 (rw_ 5 g)) 156), (A, .cells (lk .u64 (rw_ 5 f)) 156)] [] w ww4) := by rw [hv4]; exact hDx (HK3.out.setK 0 rfl m ((v : Int)))
    rw [← hv4]
    clear hv4
    clear c0 z0 k1 k2 m1 m2 hrem ix hc i1 i2
    go_wp2_with fail
    go_roundw
    case rel =>
     exact ⟨k + 1, HJ.out.2, by first | rfl | go_num, by rw [HJ.out.1]; exact HK4.out⟩
    exact measI 5 _ HJ.out.2
   obtain rfl : k = 5 := by omega
   try simp only [Int.cast_ofNat_Int]
   rw [show 5 * i + 5 = 5 * (i + 1) by omega] at HK3
   go_wp2_with fail
   go_roundw
   case rel =>
    exact ⟨i + 1, HI.out, by first | rfl | go_num, HK3.out⟩
   exact measI 5 _ HI.out
  obtain rfl : i = 5 := by omega
  try simp only [Int.cast_ofNat_Int]
  have FZ := (HK2.out.rk 0 rfl (rw_len' _ _))
  go_wp2_with (with_reducible show wpList _ _ _ _ _ _; refine wpList_load_rk (b := Z) rfl _ rfl rfl FZ ty156 ?_)
  refine (pcarried_any _ (fun j _ => tmF_big HB.out.1 HB.out.2 j) _).mono ?_
  rintro e ww3 ⟨rfl, B1⟩
  simp only []
  have HK3 := hDx (HK2.out.call B1)
  clear B1
  clear FZ
  have FR := (HK3.out.rk 0 rfl (rw_len' _ _))
  go_wp2_with (with_reducible show wpList _ _ _ _ _ _; refine wpList_store_rk rfl _ _ rfl rfl rfl FR ty156 (rw_len' _ _) ?_)
  have KE := HK3.out.setRow 0 rfl (lk .u64 (rw_ 5 (car (tmF f g 25))))
  try simp only [Exit.inBlock, Exit.then]
  refine bodyPost_ret (results_rk (p := 4) (by kernel_rfl) (by rfl) (KE.rk 0 rfl (rw_len' _ _)) ty156) rfl ?_
  exact ⟨rfl, KE.below⟩
theorem red_i {f : Nat → Nat} (h : ∀ j, j < 5 → f j < 67108864) : ∃ s : Nat, IntKind.u64.wrap ((f 0 : Int) + 5) = s ∧ rw_ 5 (plus5 f) = (rw_ 5 f).set 0 (s : Int) := by
 have h0 := h 0 (by decide)
 refine ⟨f 0 + 5, u64w (by omega) (by omega), ?_⟩
 rw [rw_set]
 rfl
def limQ (n j : Nat) : Nat := lim 67108864 (n % Q) j
theorem preduced_any (f : Nat → Nat) (hf : Nc f) (w : World) : Calls Tryz.prog 96 #[.agg (lk .u64 (rw_ 5 f))] w fun e w' => e = .returned (.agg (lk .u64 (rw_ 5 (limQ (vs 67108864 f 5))))) ∧ Below w.heap.size w w' := by
 obtain ⟨VV, hVV⟩ := nm (rw_ 5 (limQ (vs 67108864 f 5)))
 rw [← hVV]
 obtain ⟨f1, hf1⟩ := nm (car (car f))
 have hb0 : Bg f := fun j hj => Nat.le_trans (hf.le j hj) (by decide)
 have hb1 : Bg (car f) := fun j hj => Nat.le_trans ((car_nc hb0).le j hj) (by decide)
 have hfs : ∀ j, j < 5 → f1 j < 67108864 := fun j hj => by
  rw [hf1]
  show p1 (p1 (p1 (p1 f))) j < 67108864
  rw [p1_fix3 (nc_small hf) j hj]
  exact nc_small hf j hj
 have hv1 : vs 67108864 f1 5 % Q = vs 67108864 f 5 % Q := by rw [hf1, car_mod, car_mod]
 have hVl : VV.length = 5 := by rw [hVV, rw_len']
 have HV := hDx (And.intro hVV (And.intro hv1 (And.intro hfs (And.intro hb0 hb1))))
 clear hVV hv1 hfs hf hb0 hb1
 go_enter Tryz.func96, Tryz.ntmps96
 have HK0 := hDx (KS.start w)
 go_upto_region 1 with (fail)
 have hm1 := ((HK0.out.made (.cells (lk .u64 (rw_ 5 f)) 156)).made (.cells #[.int .u64 0, .int .u64 0, .int .u64 0, .int .u64 0, .int .u64 0] 156))
 try rw [show ((World.alloc w (.cells (lk .u64 (rw_ 5 f)) 156))).heap.size = w.heap.size + 1 by simp] at hm1
 obtain ⟨R, hgR⟩ := nm (w.heap.size + 1)
 obtain ⟨A, hgA⟩ := nm w.heap.size
 obtain ⟨ww1, hv1⟩ := nm (World.alloc (World.alloc w (.cells (lk .u64 (rw_ 5 f)) 156)) (.cells #[.int .u64 0, .int .u64 0, .int .u64 0, .int .u64 0, .int .u64 0] 156))
 rw [← hv1, ← hgR, ← hgA] at hm1
 rw [← hv1]
 try rw [← hgR]
 try rw [← hgA]
 have HK1 : Hid (KS [(R, .cells (lk .u64 (zi 5)) 156), (A, .cells (lk .u64 (rw_ 5 f)) 156)] [] w ww1) := hDx hm1
 clear hm1 hv1 hgA hgR
 have FA := (HK1.out.rk 1 rfl (rw_len' _ _))
 go_wp2_with (with_reducible show wpList _ _ _ _ _ _; refine wpList_load_rk (b := A) rfl _ rfl rfl FA ty156 ?_)
 refine (pcarried_any f HV.out.2.2.2.1 _).mono ?_
 rintro e ww2 ⟨rfl, B1⟩
 simp only []
 have HK2 := hDx (HK1.out.call B1)
 clear B1
 clear FA
 go_wp2_with fail
 refine (pcarried_any (car f) HV.out.2.2.2.2 _).mono ?_
 rintro e ww3 ⟨rfl, B1⟩
 simp only []
 have HK3 := hDx (HK2.out.call B1)
 clear B1
 rw [← hf1]
 clear hf1
 have FS := (HK3.out.rk 1 rfl (rw_len' _ _))
 go_upto_region 2 with (refine wpList_store_rk rfl _ _ rfl rfl rfl FS ty156 (rw_len' _ _) ?_)
 obtain ⟨ww4, hv4⟩ := nm (World.setRow ww3 A (lk .u64 (rw_ 5 f1)))
 have HK4 : Hid (KS [(R, .cells (lk .u64 (zi 5)) 156), (A, .cells (lk .u64 (rw_ 5 f1)) 156)] [] w ww4) := by rw [hv4]; exact hDx (HK3.out.setRow 1 rfl _)
 rw [← hv4]
 clear hv4
 clear FS
 have FA := (HK4.out.rk 1 rfl (rw_len' _ _))
 have FH5 := rk_new ww4 156 5 .u64 (zi 5) (zi_len 5)
 go_upto_region 3 with (first | (with_reducible show wpList _ _ _ _ _ _; refine wpList_load_rk (b := A) rfl _ rfl rfl FA ty156 ?_) | (refine wpList_store_rk rfl _ _ rfl rfl rfl FH5 ty156 (rw_len' _ _) ?_))
 have hm5 := (HK4.out.made (.cells #[.int .u64 0, .int .u64 0, .int .u64 0, .int .u64 0, .int .u64 0] 156)).setRow 0 rfl (lk .u64 (rw_ 5 f1))
 obtain ⟨Y, hgY⟩ := nm ww4.heap.size
 obtain ⟨ww5, hv5⟩ := nm (World.setRow (World.alloc ww4 (.cells #[.int .u64 0, .int .u64 0, .int .u64 0, .int .u64 0, .int .u64 0] 156)) ww4.heap.size (lk .u64 (rw_ 5 f1)))
 rw [← hv5, ← hgY] at hm5
 rw [← hv5]
 try rw [← hgY]
 have HK5 : Hid (KS [(Y, .cells (lk .u64 (rw_ 5 f1)) 156), (R, .cells (lk .u64 (zi 5)) 156), (A, .cells (lk .u64 (rw_ 5 f1)) 156)] [] w ww5) := hDx hm5
 clear hm5 hv5 hgY
 clear FA
 obtain ⟨x5, k1, k2⟩ := red_i HV.out.2.2.1
 have c0 := (HK5.out.rk 0 rfl (rw_len' _ _)).cell 0 (by decide)
 have z0 := (HK5.out.rk 0 rfl (rw_len' _ _)).fz
 rw [rw_at' _ _ _ (by decide)] at c0
 obtain ⟨g0, hg0⟩ := nm (f1 0)
 rw [← hg0] at c0 k1
 obtain ⟨W1, hW1⟩ := nm (rw_ 5 f1)
 replace k2 := hDx k2
 clear hg0
 go_upto_region 4 with fail
 obtain ⟨ww6, hv6⟩ := nm (World.setCell ww5 ⟨Y, 0, none⟩ (.int .u64 ((x5 : Int))))
 have HK6 : Hid (KS [(Y, .cells (lk .u64 ((rw_ 5 f1).set 0 (x5 : Int))) 156), (R, .cells (lk .u64 (zi 5)) 156), (A, .cells (lk .u64 (rw_ 5 f1)) 156)] [] w ww6) := by rw [hv6]; exact hDx (HK5.out.setK 0 rfl 0 ((x5 : Int)))
 rw [← hv6]
 clear hv6
 rw [← k2.out, ← gF_zero 67108864 (plus5 f1)] at HK6
 clear k1 k2 c0 z0 hW1
 obtain ⟨G, hG⟩ := nm (plus5 f1)
 have bG : Hid (Bg G) := hDx (by rw [hG]; exact p5_le HV.out.2.2.1)
 rw [← hG] at HK6
 replace hG := hDx hG
 go_upto_region 6 with fail
 go_loopw [4, 14] (fun vX vS wr => ∃ k : Nat, k ≤ 5 ∧ vS = .int .i64 (k : Int) ∧ vX = .int .u64 (gC 67108864 G k : Int) ∧ KS [(Y, .cells (lk .u64 (rw_ 5 (gF 67108864 G k))) 156), (R, .cells (lk .u64 (zi 5)) 156), (A, .cells (lk .u64 (rw_ 5 f1)) 156)] [] w wr) (fun vX vS _ => 5 - (intOf vS).toNat)
 case atStart => exact ⟨0, Nat.zero_le _, rfl, rfl, HK6.out⟩
 obtain ⟨k, hk, rfl, rfl, HK⟩ := hrel
 have HK7 := hDx HK
 clear HK
 by_cases hlt : k < 5
 ·have hk1 : (0 : Int) ≤ k := by omega
  have hk2 : (k : Int) < 5 := by omega
  obtain ⟨hk3, hk4⟩ := i64w (x := (k : Int) + 1) (n := k + 1) (by omega) (by omega)
  obtain ⟨x, r, q, k1, k2, k3, k4, k5, k6⟩ := pc_i bG.out hlt
  have c0 := (HK7.out.rk 0 rfl (rw_len' _ _)).cell k hlt
  rw [rw_at' _ _ _ hlt, k6] at c0
  obtain ⟨gk, hgk⟩ := nm (G k)
  obtain ⟨ck, hck⟩ := nm (gC 67108864 G k)
  rw [← hgk] at c0 k1
  rw [← hck] at k1
  rw [← hck]
  obtain ⟨V, hV⟩ := nm (rw_ 5 (gF 67108864 G k))
  have lV : V.length = 5 := by rw [hV, rw_len']
  rw [← hV] at HK7
  rw [← hV] at k5
  have z0 := (HK7.out.rk 0 rfl lV).fz
  have HJ := hDx (And.intro k4 (And.intro k5 hlt))
  clear hgk hck hV k4 k5 k6
  go_upto_region 9 with fail
  obtain ⟨ww8, hv8⟩ := nm (World.setCell wr ⟨Y, k, none⟩ (.int .u64 ((x : Int))))
  have HK8 : Hid (KS [(Y, .cells (lk .u64 (V.set k (x : Int))) 156), (R, .cells (lk .u64 (zi 5)) 156), (A, .cells (lk .u64 (rw_ 5 f1)) 156)] [] w ww8) := by rw [hv8]; exact hDx (HK7.out.setK 0 rfl k ((x : Int)))
  rw [← hv8]
  clear hv8
  clear c0 z0 k1
  have lV2 : (V.set k (x : Int)).length = 5 := by rw [List.length_set, lV]
  have e1 : ia (V.set k (x : Int)) k = (x : Int) := by rw [ia_set _ _ _ _ (by rw [lV]; exact hlt), if_pos rfl]
  try simp only [Act.put, sAx, s0x, s1x]
  refine wp_region_cvl 9 8 [23, 24, 25, 26, 27, 28, 29, 30, 31] [[], [], [24], [25], [26], [], [28], [29], [30]] [(23, .int .i64 (k : Int)), (24, .int .i64 (k : Int)), (25, .pointer (some ⟨Y, k, none⟩)), (26, .int .u64 (x : Int)), (27, .int .u64 (r : Int)), (28, .int .i64 (k : Int)), (29, .pointer (some ⟨Y, k, none⟩)), (30, .int .u64 (x : Int)), (31, .int .u64 (q : Int))] rfl (by kernel_rfl) (by kernel_rfl) (by rfl) (by kernel_rfl) 31 rfl rfl (by kernel_rfl) (fun _ _ _ _ h => h) ?hY ?hO ?hE
  case hY =>
   intro act u HB HO HA
   have e30 : _ = _ := qA HA 30
   exact ⟨.int .u64 (q : Int), fun w => run_shift rfl e30 rfl (Or.inl rfl) k3, rfl⟩
  case hO =>
   refine ⟨?_, ?_, ?_, ?_, ?_, ?_, ?_, ?_, ?_, trivial⟩
   ·intro act u HB HO HA
    have e5 := gE (x := .int .i64 (k : Int)) (HO 5 (by decide))
    refine calm_val 23 _ rfl ?_ rfl rfl
    clear HB HO HA
    go_simp
    try rfl
   ·intro act u HB HO HA
    have e5 := gE (x := .int .i64 (k : Int)) (HO 5 (by decide))
    refine calm_val 24 _ rfl ?_ rfl rfl
    clear HB HO HA
    go_simp
    try rfl
   ·intro act u HB HO HA
    have e3 := gE (x := .pointer (some ⟨Y, 0, none⟩)) (HO 3 (by decide))
    have e24 : _ = _ := gE (qA HA 24)
    refine calm_val 25 _ rfl ?_ rfl rfl
    clear HB HO HA
    go_simp
    try rfl
   ·intro act u HB HO HA
    have e25 : _ = _ := gE (qA HA 25)
    have HS := HK8.out.drew.call HB
    have lT : u.cell? ⟨Y, k, none⟩ = some (.int .u64 (x : Int)) := by
     have q := (HS.rk 0 rfl lV2).cell k hlt
     rw [e1] at q
     exact q
    refine calm_val 26 _ rfl ?_ rfl rfl
    clear HB HO HA HS
    go_simp
    try rfl
   ·intro act u HB HO HA
    have e26 : _ = _ := gE (qA HA 26)
    refine calm_val 27 _ rfl ?_ rfl rfl
    clear HB HO HA
    go_simp
    try rfl
   ·intro act u HB HO HA
    have e5 := gE (x := .int .i64 (k : Int)) (HO 5 (by decide))
    refine calm_val 28 _ rfl ?_ rfl rfl
    clear HB HO HA
    go_simp
    try rfl
   ·intro act u HB HO HA
    have e3 := gE (x := .pointer (some ⟨Y, 0, none⟩)) (HO 3 (by decide))
    have e28 : _ = _ := gE (qA HA 28)
    refine calm_val 29 _ rfl ?_ rfl rfl
    clear HB HO HA
    go_simp
    try rfl
   ·intro act u HB HO HA
    have e29 : _ = _ := gE (qA HA 29)
    have HS := HK8.out.drew.call HB
    have lT : u.cell? ⟨Y, k, none⟩ = some (.int .u64 (x : Int)) := by
     have q := (HS.rk 0 rfl lV2).cell k hlt
     rw [e1] at q
     exact q
    refine calm_val 30 _ rfl ?_ rfl rfl
    clear HB HO HA HS
    go_simp
    try rfl
   intro act u HB HO HA
   have e30 : _ = _ := qA HA 30
   exact calm_val 31 _ rfl (run_shift rfl e30 rfl (Or.inl rfl) k3) rfl rfl
  intro ww9 HB
  have HK9 := hDx (HK8.out.drew.call HB)
  simp only [fillL, Act.put, sAx, s0x, s1x, dSx, d0x]
  clear HB
  clear k2 k3 e1
  have z0 := (HK9.out.rk 0 rfl lV2).fz
  have c0 := (HK9.out.rk 0 rfl lV2).cell k hlt
  clear hlt
  go_upto_region 10 with fail
  obtain ⟨ww10, hv10⟩ := nm (World.setCell ww9 ⟨Y, k, none⟩ (.int .u64 ((r : Int))))
  have HK10 : Hid (KS [(Y, .cells (lk .u64 ((V.set k (x : Int)).set k (r : Int))) 156), (R, .cells (lk .u64 (zi 5)) 156), (A, .cells (lk .u64 (rw_ 5 f1)) 156)] [] w ww10) := by rw [hv10]; exact hDx (HK9.out.setK 0 rfl k ((r : Int)))
  rw [← hv10]
  clear hv10
  rw [set_set', ← HJ.out.2.1] at HK10
  clear lV lV2 z0 c0
  go_wp2_with fail
  go_roundw
  case rel =>
   exact ⟨k + 1, HJ.out.2.2, by first | rfl | go_num, by rw [HJ.out.1], HK10.out⟩
  exact measI 5 _ HJ.out.2.2
 obtain rfl : k = 5 := by omega
 try simp only [Int.cast_ofNat_Int]
 by_cases hc : 0 < gC 67108864 G 5
 ·have e : rw_ 5 (gF 67108864 G 5) = VV := by
   rw [HV.out.1]
   refine rw_ext fun j hj => ?_
   rw [hG.out, red_yes HV.out.2.2.1 (by rw [← hG.out]; exact hc) j hj, HV.out.2.1]; rfl
  rw [e] at HK7
  obtain ⟨ck, hck⟩ := nm (gC 67108864 G 5)
  rw [← hck] at hc
  rw [← hck]
  have hc2 : (0 : Int) < ck := by exact Int.ofNat_lt.2 hc
  clear e hck hc
  go_upto_region 12 with fail
  clear hc2
  have FA := (HK7.out.rk 0 rfl hVl)
  have FR := (HK7.out.rk 1 rfl (zi_len 5))
  go_wp2_with (first | (refine wpList_load_rk rfl _ rfl rfl FA ty156 ?_) | (refine wpList_store_rk rfl _ _ rfl rfl rfl FR ty156 hVl ?_))
  have KE := HK7.out.setRow 1 rfl (lk .u64 (VV))
  try simp only [Exit.inBlock, Exit.then]
  refine bodyPost_ret (results_rk (p := 2) (by kernel_rfl) (by rfl) (KE.rk 1 rfl hVl) ty156) rfl ?_
  exact ⟨rfl, KE.below⟩
 have e : rw_ 5 f1 = VV := by
  rw [HV.out.1]
  refine rw_ext fun j hj => ?_
  rw [red_no HV.out.2.2.1 (by rw [← hG.out]; exact hc) j hj, HV.out.2.1]; rfl
 rw [e] at HK7
 obtain ⟨ck, hck⟩ := nm (gC 67108864 G 5)
 rw [← hck] at hc
 rw [← hck]
 have hc2 : ¬ (0 : Int) < ck := fun h => hc (Int.ofNat_lt.1 h)
 clear e hck hc
 go_upto_region 13 with fail
 clear hc2
 have FA := (HK7.out.rk 2 rfl hVl)
 have FR := (HK7.out.rk 1 rfl (zi_len 5))
 go_wp2_with (first | (refine wpList_load_rk rfl _ rfl rfl FA ty156 ?_) | (refine wpList_store_rk rfl _ _ rfl rfl rfl FR ty156 hVl ?_))
 have KE := HK7.out.setRow 1 rfl (lk .u64 (VV))
 try simp only [Exit.inBlock, Exit.then]
 refine bodyPost_ret (results_rk (p := 2) (by kernel_rfl) (by rfl) (KE.rk 1 rfl hVl) ty156) rfl ?_
 exact ⟨rfl, KE.below⟩
end
section
open Go.RowKit T
def ofC (c : Nat → Nat) (L n i : Nat) : Nat := if i < L then c i else if 0 < n ∧ i = n then 1 else 0
theorem ofC_lt {c : Nat → Nat} (hc : ∀ j, c j < 256) (L n i : Nat) : ofC c L n i < 256 := by
 unfold ofC
 have := hc i
 repeat' split
 all_goals omega
def ofV (c : Nat → Nat) (L n : Nat) : Nat := vs 256 c L + if 0 < n then 256 ^ L else 0
theorem ofC_v (c : Nat → Nat) (L n : Nat) (hL : L ≤ 16) (hn : n = 0 ∨ n = L) : vs 256 (ofC c L n) 17 = ofV c L n := by
 have key : ∀ d, vs 256 (ofC c L n) (L + d) = vs 256 c L + if 0 < d ∧ 0 < n then 256 ^ L else 0 := by
  intro d
  induction d with
  | zero =>
   rw [Nat.add_zero, if_neg (by omega), Nat.add_zero]
   exact vs_ext L fun j hj => by unfold ofC; rw [if_pos hj]
  | succ d ih =>
   have e1 : ofC c L n (L + d) = if 0 < n ∧ d = 0 then 1 else 0 := by
    unfold ofC
    rw [if_neg (by omega)]
    by_cases h : 0 < n ∧ d = 0
    ·rw [if_pos h, if_pos (by omega)]
    ·rw [if_neg h, if_neg (by omega)]
   rw [← Nat.add_assoc, vs, ih, e1]
   by_cases h : 0 < n
   ·by_cases hd : d = 0
    ·subst hd
     simp [h]
    ·have : 0 < d := by omega
     simp [h, hd, this]
   ·simp [h]
 have h := key (17 - L)
 rw [show L + (17 - L) = 17 by omega] at h
 rw [h]
 unfold ofV
 by_cases h0 : 0 < n
 ·rw [if_pos ⟨by omega, h0⟩, if_pos h0]
 rw [if_neg (by omega), if_neg h0]
theorem shl64 (a e z : Nat) (he : e ≤ 30) (hz : z = a * 2 ^ e) (hb : z < 18446744073709551616) : Op.shift .shl .u64 (a : Int) .u64 (e : Int) = pure (.int .u64 (z : Int)) := by
 rw [shift_shl _ _ _ _ (by omega) (by show (e : Int) ≤ 64; omega), Int.toNat_natCast]
 have : (a : Int) * 2 ^ e = (z : Int) := by rw [hz]; push_cast; rfl
 rw [this, u64w rfl hb]
theorem shr64 (a e z : Nat) (he : e ≤ 30) (hz : z = a / 2 ^ e) : Op.shift .shr .u64 (a : Int) .u64 (e : Int) = pure (.int .u64 (z : Int)) := by
 rw [shift_shr _ _ _ _ (by omega) (by show (e : Int) ≤ 64; omega), Int.toNat_natCast]
 have : (a : Int) / 2 ^ e = (z : Int) := by rw [hz]; push_cast; rfl
 rw [this]
theorem or64 (a b : Nat) (ha : a < 18446744073709551616) (hb : b < 18446744073709551616) : bits .or .u64 (a : Int) (b : Int) = ((a ||| b : Nat) : Int) := u64_or_nat a b ha hb
theorem of_i {c : Nat → Nat} (hc : ∀ j, c j < 256) (L n i : Nat) (hL : L ≤ 16) (hn : n = 0 ∨ n = L) (hi : i < 17) (cv : Nat) (hcv : cv = ofC c L n i) :
  ∃ k q m y1 y2 A0 A1 : Nat, k = 8 * i ∧ IntKind.i64.wrap (8 * (i : Int)) = k ∧ wrap64 (8 * (i : Int)) = k ∧ binOp .quo 3 (.int .i64 (k : Int)) (.int .i64 26) = pure (.int .i64 (q : Int)) ∧ binOp .rem 3 (.int .i64 (k : Int)) (.int .i64 26) = pure (.int .i64 (m : Int)) ∧ q < 5 ∧ (0 : Int) ≤ q ∧ (q : Int) < 5 ∧ IntKind.u64.wrap (m : Int) = m ∧
   Op.shift .shl .u64 (cv : Int) .u64 (m : Int) = pure (.int .u64 (y1 : Int)) ∧ bits .and .u64 (y1 : Int) 67108863 = y2 ∧ ia (rw_ 5 (lim 67108864 (vs 256 (ofC c L n) i))) q = (A0 : Int) ∧ bits .or .u64 (A0 : Int) (y2 : Int) = A1 ∧
   (¬ (18 < m ∧ q < 4) → rw_ 5 (lim 67108864 (vs 256 (ofC c L n) (i + 1))) = (rw_ 5 (lim 67108864 (vs 256 (ofC c L n) i))).set q (A1 : Int)) ∧
   (18 < m → q < 4 → ∃ q1 m1 y3 A2 A3 : Nat, q1 = q + 1 ∧ IntKind.i64.wrap ((q : Int) + 1) = q1 ∧ wrap64 ((q : Int) + 1) = q1 ∧ q1 < 5 ∧ (0 : Int) ≤ q1 ∧ (q1 : Int) < 5 ∧ IntKind.i64.wrap (26 - (m : Int)) = m1 ∧ wrap64 (26 - (m : Int)) = m1 ∧ IntKind.u64.wrap (m1 : Int) = m1 ∧ Op.shift .shr .u64 (cv : Int) .u64 (m1 : Int) = pure (.int .u64 (y3 : Int)) ∧
    ia ((rw_ 5 (lim 67108864 (vs 256 (ofC c L n) i))).set q (A1 : Int)) q1 = (A2 : Int) ∧ bits .or .u64 (A2 : Int) (y3 : Int) = A3 ∧ rw_ 5 (lim 67108864 (vs 256 (ofC c L n) (i + 1))) = ((rw_ 5 (lim 67108864 (vs 256 (ofC c L n) i))).set q (A1 : Int)).set q1 (A3 : Int)) := by
 have hV := vs_lt (b := 256) (f := ofC c L n) (by decide) i (fun j _ => ofC_lt hc L n j)
 have hcl := ofC_lt hc L n i
 have h16 : i = 16 → ofC c L n i ≤ 1 := by
  intro e
  subst e
  unfold ofC
  rw [if_neg (by omega)]
  split <;> omega
 have key := fun j hj => ofU_lim (vs 256 (ofC c L n) i) (ofC c L n i) i (by omega) hV hcl h16 j hj
 rw [← hcv] at hcl key
 rw [show vs 256 (ofC c L n) (i + 1) = vs 256 (ofC c L n) i + cv * 256 ^ i by rw [hcv]; rfl]
 generalize vs 256 (ofC c L n) i = V at key ⊢
 clear hV h16 hcv hc
 have hm : 8 * i % 26 < 26 := Nat.mod_lt _ (by decide)
 have hy1 : cv * 2 ^ (8 * i % 26) < 18446744073709551616 := by
  have h1 : 2 ^ (8 * i % 26) ≤ 2 ^ 26 := Nat.pow_le_pow_right (by decide) (by omega)
  have h2 : cv * 2 ^ (8 * i % 26) ≤ 256 * 2 ^ 26 := Nat.mul_le_mul (by omega) h1
  omega
 obtain ⟨a1, a2⟩ := i64w (x := 8 * (i : Int)) (n := 8 * i) (by omega) (by omega)
 have hA0 := lim_lt (b := 67108864) (by decide) V (8 * i / 26)
 have hy2 : cv * 2 ^ (8 * i % 26) % 67108864 < 67108864 := Nat.mod_lt _ (by decide)
 have hq : 8 * i / 26 < 5 := by omega
 refine ⟨8 * i, 8 * i / 26, 8 * i % 26, cv * 2 ^ (8 * i % 26), cv * 2 ^ (8 * i % 26) % 67108864, lim 67108864 V (8 * i / 26), lim 67108864 V (8 * i / 26) ||| cv * 2 ^ (8 * i % 26) % 67108864, rfl, a2, a1, quo_i 3 (8 * i) 26 _ (by decide) rfl (by omega), rem_i 3 (8 * i) 26 _ (by decide) rfl (by omega), hq, by omega, by omega, u64w rfl (by omega),
  shl64 _ _ _ (by omega) rfl hy1, and26 _ hy1, rw_at' _ _ _ hq, or64 _ _ (by omega) (by omega), fun h => ?_, fun h18 h4 => ?_⟩
 ·rw [rw_set]
  refine rw_ext fun j hj => ?_
  rw [← key j hj]
  unfold ofU
  rw [if_neg h]
 obtain ⟨b1, b2⟩ := i64w (x := ((8 * i / 26 : Nat) : Int) + 1) (n := 8 * i / 26 + 1) (by omega) (by omega)
 obtain ⟨c1, c2⟩ := i64w (x := 26 - ((8 * i % 26 : Nat) : Int)) (n := 26 - 8 * i % 26) (by omega) (by omega)
 have hA2 := lim_lt (b := 67108864) (by decide) V (8 * i / 26 + 1)
 have hy3 : cv / 2 ^ (26 - 8 * i % 26) < 67108864 := Nat.lt_of_le_of_lt (Nat.div_le_self _ _) (by omega)
 refine ⟨8 * i / 26 + 1, 26 - 8 * i % 26, cv / 2 ^ (26 - 8 * i % 26), lim 67108864 V (8 * i / 26 + 1), lim 67108864 V (8 * i / 26 + 1) ||| cv / 2 ^ (26 - 8 * i % 26), rfl, b2, b1, by omega, by omega, by omega, c2, c1, u64w rfl (by omega), shr64 _ _ _ (by omega) rfl, ?_, or64 _ _ (by omega) (by omega), ?_⟩
 ·rw [ia_set _ _ _ _ (by rw [rw_len']; exact hq), if_neg (by omega), rw_at' _ _ _ (by omega)]
 rw [rw_set, rw_set]
 refine rw_ext fun j hj => ?_
 rw [← key j hj]
 unfold ofU
 rw [if_pos ⟨h18, h4⟩]
 have e : upd (lim 67108864 V) (8 * i / 26) (lim 67108864 V (8 * i / 26) ||| cv * 2 ^ (8 * i % 26) % 67108864) (8 * i / 26 + 1) = lim 67108864 V (8 * i / 26 + 1) := by unfold upd; rw [if_neg (by omega)]
 rw [e]
theorem of_lt {i L : Nat} (h : i < L) : (i : Int) < L := by omega
theorem of_nlt {i L : Nat} (h : ¬ i < L) : ¬ (i : Int) < L := by omega
theorem of_C1 {c : Nat → Nat} {L n i : Nat} (h : i < L) : ofC c L n i = c i := by unfold ofC; rw [if_pos h]
theorem of_C2 {c : Nat → Nat} {L n i : Nat} (h : ¬ i < L) (h0 : 0 < n) (hn : i = n) : ofC c L n i = 1 := by unfold ofC; rw [if_neg h, if_pos ⟨h0, hn⟩]
theorem of_C3 {c : Nat → Nat} {L n i : Nat} (h : ¬ i < L) (h0 : ¬ (0 < n ∧ i = n)) : ofC c L n i = 0 := by unfold ofC; rw [if_neg h, if_neg h0]
theorem bt64' {x : Nat} (h : x < 256) : IntKind.u64.wrap (x : Int) = x := u64w rfl (by omega)
theorem gt18 {m : Nat} (h : 18 < m) : (18 : Int) < m := by omega
theorem ngt18 {m : Nat} (h : ¬ 18 < m) : ¬ (18 : Int) < m := by omega
theorem lt4 {q : Nat} (h : q < 4) : (q : Int) < 4 := by omega
theorem nlt4 {q : Nat} (h : ¬ q < 4) : ¬ (q : Int) < 4 := by omega
theorem pos_i {n : Nat} (h : 0 < n) : (0 : Int) < n := by omega
theorem npos_i {n : Nat} (h : ¬ 0 < n) : ¬ (0 : Int) < n := by omega
theorem ne_i {i n : Nat} (h : ¬ i = n) : ¬ (i : Int) = n := by omega
theorem lz (j : Nat) : lim 67108864 0 j = 0 := by unfold lim; simp
theorem pof_any (blk off L n cap : Nat) (c : Nat → Nat) (w : World) (hc : ∀ j, c j < 256) (hL : L ≤ 16) (hn : n = 0 ∨ n = L) (hcell : ∀ j, j < L → w.cell? ⟨blk, off + j, none⟩ = some (.int .u8 (c j : Int))) (hb : blk < w.heap.size) :
    Calls Tryz.prog 92 #[.slice (some ⟨blk, off, none⟩) L cap, .int .i64 (n : Int)] w fun e w' => e = .returned (.agg (lk .u64 (rw_ 5 (lim 67108864 (ofV c L n))))) ∧ Below w.heap.size w w' := by
  have HH := hDx (And.intro hc (And.intro hL (And.intro hn (And.intro hcell hb))))
  clear hc hL hn hcell hb
  go_enter Tryz.func92, Tryz.ntmps92
  have HK0 := hDx (KS.start w)
  go_upto_region 1 with (fail)
  have hz : rw_ 5 (lim 67108864 (vs 256 (ofC c L n) 0)) = zi 5 := by rw [zi_rw]; exact rw_ext fun j _ => lz j
  have hm := HK0.out.made (.cells (lk .u64 (zi 5)) 156)
  rw [← hz] at hm
  obtain ⟨Z, hgZ⟩ := nm w.heap.size
  obtain ⟨ww1, hv⟩ := nm (World.alloc w (.cells #[.int .u64 0, .int .u64 0, .int .u64 0, .int .u64 0, .int .u64 0] 156))
  have HK1 : Hid (KS [(Z, .cells (lk .u64 (rw_ 5 (lim 67108864 (vs 256 (ofC c L n) 0)))) 156)] [] w ww1) := by rw [hv, hgZ, hz] ; rw [hz] at hm; exact hDx hm
  rw [← hv, ← hgZ]
  clear hz hm hgZ hv
  go_upto_region 2 with fail
  go_loopw [8] (fun vS wr => ∃ i : Nat, i ≤ 17 ∧ vS = .int .i64 (i : Int) ∧ KS [(Z, .cells (lk .u64 (rw_ 5 (lim 67108864 (vs 256 (ofC c L n) i)))) 156)] [] w wr) (fun vS _ => 17 - (intOf vS).toNat)
  case atStart => exact ⟨0, Nat.zero_le _, rfl, HK1.out⟩
  obtain ⟨i, hi, rfl, HK⟩ := hrel
  have HK2 := hDx HK
  clear HK
  by_cases hlt : i < 17
  · have hi1 : (0 : Int) ≤ i := by omega
    have hi2 : (i : Int) < 17 := by omega
    obtain ⟨hi3, hi4⟩ := i64w (x := (i : Int) + 1) (n := i + 1) (by omega) (by omega)
    have HI := hDx hlt
    clear hlt hi2
    have hi17 : (i : Int) < 17 := Int.ofNat_lt.2 HI.out
    by_cases hiL : i < L
    · have hcv : c i = ofC c L n i := (of_C1 hiL).symm
      have hx := HK2.out.below.cell (p := ⟨blk, off + i, none⟩) HH.out.2.2.2.2
      rw [HH.out.2.2.2.1 i hiL] at hx
      have hx64 := bt64' (HH.out.1 i)
      have g1 := of_lt hiL
      have hne : n = 0 ∨ ¬ i = n := by rcases HH.out.2.2.1 with h | h
                                       · exact .inl h
                                       · exact .inr (by rw [h]; exact Nat.ne_of_lt hiL)
      obtain ⟨cv, hcv0⟩ := nm (c i)
      rw [← hcv0] at hcv hx hx64
      replace hcv := hDx hcv
      clear hcv0 hiL
      go_upto_region 7 with fail
      clear hx hx64
      replace hcv := hcv.out
      by_cases h0 : 0 < n
      · have g2 := pos_i h0
        have g3 := ne_i (hne.resolve_left (fun e => by rw [e] at h0; exact Nat.lt_irrefl _ h0))
        clear hne h0
        replace hcv := hDx hcv
        go_upto_region 9 with fail
        clear g1 g2 g3
        replace hcv := hcv.out
        obtain ⟨k, q, m, y1, y2, A0, A1, hk8, k1, k2, hquo, hrem, hq5, q1, q2, um, hsh, hand, a0, hor, hno, hyes⟩ := of_i HH.out.1 L n i HH.out.2.1 HH.out.2.2.1 HI.out cv hcv
        replace hno := hDx hno
        replace hyes := hDx hyes
        clear hcv hk8
        obtain ⟨V, hV⟩ := nm (rw_ 5 (lim 67108864 (vs 256 (ofC c L n) i)))
        have lV : V.length = 5 := by rw [hV, rw_len']
        rw [← hV] at HK2
        rw [← hV] at a0
        replace hV := hDx hV
        have c0 := (HK2.out.rk 0 rfl lV).cell q hq5
        rw [a0] at c0
        have z0 := (HK2.out.rk 0 rfl lV).fz
        go_upto_region 11 with (first | (with_reducible show Oper.wp _ _ _ _ _ _; refine wp_bin hquo rfl rfl rfl ?_) | (with_reducible show Oper.wp _ _ _ _ _ _; refine wp_bin hrem rfl rfl rfl ?_) | (with_reducible show Oper.wp _ _ _ _ _ _; refine wp_shift hsh (Or.inr rfl) rfl rfl rfl ?_))
        obtain ⟨ww3, hv3⟩ := nm (World.setCell wr ⟨Z, q, none⟩ (.int .u64 ((A1 : Int))))
        have HK3 : Hid (KS [(Z, .cells (lk .u64 (V.set q (A1 : Int))) 156)] [] w ww3) := by rw [hv3]; exact hDx (HK2.out.setK 0 rfl q ((A1 : Int)))
        rw [← hv3]
        clear hv3
        clear c0 z0 a0 hor hand hsh k1 k2
        have lV2 : (V.set q (A1 : Int)).length = 5 := by rw [List.length_set, lV]
        by_cases h18 : 18 < m
        · have g18 := gt18 h18
          by_cases h4 : q < 4
          · obtain ⟨p, m1, y3, A2, A3, p0, p1, p2, p5, p3, p4, e1, e2, um1, hs3, a2, ho3, es⟩ := hyes.out h18 h4
            rw [← hV.out] at a2 es
            have g4 := lt4 h4
            have c0 := (HK3.out.rk 0 rfl lV2).cell p p5
            rw [a2] at c0
            have z0 := (HK3.out.rk 0 rfl lV2).fz
            replace es := hDx es
            clear h18 h4 hno hyes hV p0 a2
            go_upto_region 12 with (first | (with_reducible show Oper.wp _ _ _ _ _ _; refine wp_bin hquo rfl rfl rfl ?_) | (with_reducible show Oper.wp _ _ _ _ _ _; refine wp_bin hrem rfl rfl rfl ?_))
            go_upto_region 13 with (first | (with_reducible show Oper.wp _ _ _ _ _ _; refine wp_bin hquo rfl rfl rfl ?_) | (with_reducible show Oper.wp _ _ _ _ _ _; refine wp_bin hrem rfl rfl rfl ?_) | (with_reducible show Oper.wp _ _ _ _ _ _; refine wp_shift hs3 (Or.inl rfl) rfl rfl rfl ?_))
            obtain ⟨ww4, hv4⟩ := nm (World.setCell ww3 ⟨Z, p, none⟩ (.int .u64 ((A3 : Int))))
            have HK4 : Hid (KS [(Z, .cells (lk .u64 ((V.set q (A1 : Int)).set p (A3 : Int))) 156)] [] w ww4) := by rw [hv4]; exact hDx (HK3.out.setK 0 rfl p ((A3 : Int)))
            rw [← hv4]
            clear hv4
            rw [← es.out] at HK4
            clear c0 z0 es lV lV2 g18 g4 e1 e2 um1 hs3 ho3 p1 p2 p3 p4 p5
            go_wp2_with fail
            go_roundw
            case rel =>
              exact ⟨i + 1, HI.out, by first | rfl | go_num, HK4.out⟩
            exact measI 17 _ HI.out
          have g4 := nlt4 h4
          have es := hno.out (fun h => h4 h.2)
          rw [← hV.out] at es
          rw [← es] at HK3
          clear es h4 h18 hno hyes hV lV lV2
          go_upto_region 13 with (first | (with_reducible show Oper.wp _ _ _ _ _ _; refine wp_bin hquo rfl rfl rfl ?_) | (with_reducible show Oper.wp _ _ _ _ _ _; refine wp_bin hrem rfl rfl rfl ?_))
          go_wp2_with fail
          go_roundw
          case rel =>
            exact ⟨i + 1, HI.out, by first | rfl | go_num, HK3.out⟩
          exact measI 17 _ HI.out
        have g18 := ngt18 h18
        have es := hno.out (fun h => h18 h.1)
        rw [← hV.out] at es
        rw [← es] at HK3
        clear es h18 hno hyes hV lV lV2
        go_upto_region 13 with (first | (with_reducible show Oper.wp _ _ _ _ _ _; refine wp_bin hquo rfl rfl rfl ?_) | (with_reducible show Oper.wp _ _ _ _ _ _; refine wp_bin hrem rfl rfl rfl ?_))
        go_wp2_with fail
        go_roundw
        case rel =>
          exact ⟨i + 1, HI.out, by first | rfl | go_num, HK3.out⟩
        exact measI 17 _ HI.out
      have g2 := npos_i h0
      clear hne h0
      replace hcv := hDx hcv
      go_upto_region 9 with fail
      clear g1 g2
      replace hcv := hcv.out
      obtain ⟨k, q, m, y1, y2, A0, A1, hk8, k1, k2, hquo, hrem, hq5, q1, q2, um, hsh, hand, a0, hor, hno, hyes⟩ := of_i HH.out.1 L n i HH.out.2.1 HH.out.2.2.1 HI.out cv hcv
      replace hno := hDx hno
      replace hyes := hDx hyes
      clear hcv hk8
      obtain ⟨V, hV⟩ := nm (rw_ 5 (lim 67108864 (vs 256 (ofC c L n) i)))
      have lV : V.length = 5 := by rw [hV, rw_len']
      rw [← hV] at HK2
      rw [← hV] at a0
      replace hV := hDx hV
      have c0 := (HK2.out.rk 0 rfl lV).cell q hq5
      rw [a0] at c0
      have z0 := (HK2.out.rk 0 rfl lV).fz
      go_upto_region 11 with (first | (with_reducible show Oper.wp _ _ _ _ _ _; refine wp_bin hquo rfl rfl rfl ?_) | (with_reducible show Oper.wp _ _ _ _ _ _; refine wp_bin hrem rfl rfl rfl ?_) | (with_reducible show Oper.wp _ _ _ _ _ _; refine wp_shift hsh (Or.inr rfl) rfl rfl rfl ?_))
      obtain ⟨ww3, hv3⟩ := nm (World.setCell wr ⟨Z, q, none⟩ (.int .u64 ((A1 : Int))))
      have HK3 : Hid (KS [(Z, .cells (lk .u64 (V.set q (A1 : Int))) 156)] [] w ww3) := by rw [hv3]; exact hDx (HK2.out.setK 0 rfl q ((A1 : Int)))
      rw [← hv3]
      clear hv3
      clear c0 z0 a0 hor hand hsh k1 k2
      have lV2 : (V.set q (A1 : Int)).length = 5 := by rw [List.length_set, lV]
      by_cases h18 : 18 < m
      · have g18 := gt18 h18
        by_cases h4 : q < 4
        · obtain ⟨p, m1, y3, A2, A3, p0, p1, p2, p5, p3, p4, e1, e2, um1, hs3, a2, ho3, es⟩ := hyes.out h18 h4
          rw [← hV.out] at a2 es
          have g4 := lt4 h4
          have c0 := (HK3.out.rk 0 rfl lV2).cell p p5
          rw [a2] at c0
          have z0 := (HK3.out.rk 0 rfl lV2).fz
          replace es := hDx es
          clear h18 h4 hno hyes hV p0 a2
          go_upto_region 12 with (first | (with_reducible show Oper.wp _ _ _ _ _ _; refine wp_bin hquo rfl rfl rfl ?_) | (with_reducible show Oper.wp _ _ _ _ _ _; refine wp_bin hrem rfl rfl rfl ?_))
          go_upto_region 13 with (first | (with_reducible show Oper.wp _ _ _ _ _ _; refine wp_bin hquo rfl rfl rfl ?_) | (with_reducible show Oper.wp _ _ _ _ _ _; refine wp_bin hrem rfl rfl rfl ?_) | (with_reducible show Oper.wp _ _ _ _ _ _; refine wp_shift hs3 (Or.inl rfl) rfl rfl rfl ?_))
          obtain ⟨ww4, hv4⟩ := nm (World.setCell ww3 ⟨Z, p, none⟩ (.int .u64 ((A3 : Int))))
          have HK4 : Hid (KS [(Z, .cells (lk .u64 ((V.set q (A1 : Int)).set p (A3 : Int))) 156)] [] w ww4) := by rw [hv4]; exact hDx (HK3.out.setK 0 rfl p ((A3 : Int)))
          rw [← hv4]
          clear hv4
          rw [← es.out] at HK4
          clear c0 z0 es lV lV2 g18 g4 e1 e2 um1 hs3 ho3 p1 p2 p3 p4 p5
          go_wp2_with fail
          go_roundw
          case rel =>
            exact ⟨i + 1, HI.out, by first | rfl | go_num, HK4.out⟩
          exact measI 17 _ HI.out
        have g4 := nlt4 h4
        have es := hno.out (fun h => h4 h.2)
        rw [← hV.out] at es
        rw [← es] at HK3
        clear es h4 h18 hno hyes hV lV lV2
        go_upto_region 13 with (first | (with_reducible show Oper.wp _ _ _ _ _ _; refine wp_bin hquo rfl rfl rfl ?_) | (with_reducible show Oper.wp _ _ _ _ _ _; refine wp_bin hrem rfl rfl rfl ?_))
        go_wp2_with fail
        go_roundw
        case rel =>
          exact ⟨i + 1, HI.out, by first | rfl | go_num, HK3.out⟩
        exact measI 17 _ HI.out
      have g18 := ngt18 h18
      have es := hno.out (fun h => h18 h.1)
      rw [← hV.out] at es
      rw [← es] at HK3
      clear es h18 hno hyes hV lV lV2
      go_upto_region 13 with (first | (with_reducible show Oper.wp _ _ _ _ _ _; refine wp_bin hquo rfl rfl rfl ?_) | (with_reducible show Oper.wp _ _ _ _ _ _; refine wp_bin hrem rfl rfl rfl ?_))
      go_wp2_with fail
      go_roundw
      case rel =>
        exact ⟨i + 1, HI.out, by first | rfl | go_num, HK3.out⟩
      exact measI 17 _ HI.out
    have g1 := of_nlt hiL
    by_cases h0 : 0 < n
    · have g2 := pos_i h0
      by_cases hin : i = n
      · have hcv : 1 = ofC c L n i := (of_C2 hiL h0 hin).symm
        have hin2 := hin.symm
        clear hin h0 hiL
        subst hin2
        replace hcv := hDx hcv
        go_upto_region 9 with fail
        clear g1 g2
        replace hcv := hcv.out
        obtain ⟨cv, hcv0⟩ : ∃ x : Nat, x = 1 := ⟨_, rfl⟩
        rw [← hcv0] at hcv
        rw [show (1 : Int) = (cv : Int) by rw [hcv0]; rfl]
        clear hcv0
        obtain ⟨k, q, m, y1, y2, A0, A1, hk8, k1, k2, hquo, hrem, hq5, q1, q2, um, hsh, hand, a0, hor, hno, hyes⟩ := of_i HH.out.1 L n n HH.out.2.1 HH.out.2.2.1 HI.out cv hcv
        replace hno := hDx hno
        replace hyes := hDx hyes
        clear hcv hk8
        obtain ⟨V, hV⟩ := nm (rw_ 5 (lim 67108864 (vs 256 (ofC c L n) n)))
        have lV : V.length = 5 := by rw [hV, rw_len']
        rw [← hV] at HK2
        rw [← hV] at a0
        replace hV := hDx hV
        have c0 := (HK2.out.rk 0 rfl lV).cell q hq5
        rw [a0] at c0
        have z0 := (HK2.out.rk 0 rfl lV).fz
        go_upto_region 11 with (first | (with_reducible show Oper.wp _ _ _ _ _ _; refine wp_bin hquo rfl rfl rfl ?_) | (with_reducible show Oper.wp _ _ _ _ _ _; refine wp_bin hrem rfl rfl rfl ?_) | (with_reducible show Oper.wp _ _ _ _ _ _; refine wp_shift hsh (Or.inr rfl) rfl rfl rfl ?_))
        obtain ⟨ww3, hv3⟩ := nm (World.setCell wr ⟨Z, q, none⟩ (.int .u64 ((A1 : Int))))
        have HK3 : Hid (KS [(Z, .cells (lk .u64 (V.set q (A1 : Int))) 156)] [] w ww3) := by rw [hv3]; exact hDx (HK2.out.setK 0 rfl q ((A1 : Int)))
        rw [← hv3]
        clear hv3
        clear c0 z0 a0 hor hand hsh k1 k2
        have lV2 : (V.set q (A1 : Int)).length = 5 := by rw [List.length_set, lV]
        by_cases h18 : 18 < m
        · have g18 := gt18 h18
          by_cases h4 : q < 4
          · obtain ⟨p, m1, y3, A2, A3, p0, p1, p2, p5, p3, p4, e1, e2, um1, hs3, a2, ho3, es⟩ := hyes.out h18 h4
            rw [← hV.out] at a2 es
            have g4 := lt4 h4
            have c0 := (HK3.out.rk 0 rfl lV2).cell p p5
            rw [a2] at c0
            have z0 := (HK3.out.rk 0 rfl lV2).fz
            replace es := hDx es
            clear h18 h4 hno hyes hV p0 a2
            go_upto_region 12 with (first | (with_reducible show Oper.wp _ _ _ _ _ _; refine wp_bin hquo rfl rfl rfl ?_) | (with_reducible show Oper.wp _ _ _ _ _ _; refine wp_bin hrem rfl rfl rfl ?_))
            go_upto_region 13 with (first | (with_reducible show Oper.wp _ _ _ _ _ _; refine wp_bin hquo rfl rfl rfl ?_) | (with_reducible show Oper.wp _ _ _ _ _ _; refine wp_bin hrem rfl rfl rfl ?_) | (with_reducible show Oper.wp _ _ _ _ _ _; refine wp_shift hs3 (Or.inl rfl) rfl rfl rfl ?_))
            obtain ⟨ww4, hv4⟩ := nm (World.setCell ww3 ⟨Z, p, none⟩ (.int .u64 ((A3 : Int))))
            have HK4 : Hid (KS [(Z, .cells (lk .u64 ((V.set q (A1 : Int)).set p (A3 : Int))) 156)] [] w ww4) := by rw [hv4]; exact hDx (HK3.out.setK 0 rfl p ((A3 : Int)))
            rw [← hv4]
            clear hv4
            rw [← es.out] at HK4
            clear c0 z0 es lV lV2 g18 g4 e1 e2 um1 hs3 ho3 p1 p2 p3 p4 p5
            go_wp2_with fail
            go_roundw
            case rel =>
              exact ⟨n + 1, HI.out, by first | rfl | go_num, HK4.out⟩
            exact measI 17 _ HI.out
          have g4 := nlt4 h4
          have es := hno.out (fun h => h4 h.2)
          rw [← hV.out] at es
          rw [← es] at HK3
          clear es h4 h18 hno hyes hV lV lV2
          go_upto_region 13 with (first | (with_reducible show Oper.wp _ _ _ _ _ _; refine wp_bin hquo rfl rfl rfl ?_) | (with_reducible show Oper.wp _ _ _ _ _ _; refine wp_bin hrem rfl rfl rfl ?_))
          go_wp2_with fail
          go_roundw
          case rel =>
            exact ⟨n + 1, HI.out, by first | rfl | go_num, HK3.out⟩
          exact measI 17 _ HI.out
        have g18 := ngt18 h18
        have es := hno.out (fun h => h18 h.1)
        rw [← hV.out] at es
        rw [← es] at HK3
        clear es h18 hno hyes hV lV lV2
        go_upto_region 13 with (first | (with_reducible show Oper.wp _ _ _ _ _ _; refine wp_bin hquo rfl rfl rfl ?_) | (with_reducible show Oper.wp _ _ _ _ _ _; refine wp_bin hrem rfl rfl rfl ?_))
        go_wp2_with fail
        go_roundw
        case rel =>
          exact ⟨n + 1, HI.out, by first | rfl | go_num, HK3.out⟩
        exact measI 17 _ HI.out
      have hcv : 0 = ofC c L n i := (of_C3 hiL (fun h => hin h.2)).symm
      have g3 := ne_i hin
      clear h0 hin hiL
      replace hcv := hDx hcv
      go_upto_region 9 with fail
      clear g1 g2 g3
      replace hcv := hcv.out
      obtain ⟨k, q, m, y1, y2, A0, A1, hk8, k1, k2, hquo, hrem, hq5, q1, q2, um, hsh, hand, a0, hor, hno, hyes⟩ := of_i HH.out.1 L n i HH.out.2.1 HH.out.2.2.1 HI.out 0 hcv
      replace hno := hDx hno
      replace hyes := hDx hyes
      clear hcv hk8
      obtain ⟨V, hV⟩ := nm (rw_ 5 (lim 67108864 (vs 256 (ofC c L n) i)))
      have lV : V.length = 5 := by rw [hV, rw_len']
      rw [← hV] at HK2
      rw [← hV] at a0
      replace hV := hDx hV
      have c0 := (HK2.out.rk 0 rfl lV).cell q hq5
      rw [a0] at c0
      have z0 := (HK2.out.rk 0 rfl lV).fz
      go_upto_region 11 with (first | (with_reducible show Oper.wp _ _ _ _ _ _; refine wp_bin hquo rfl rfl rfl ?_) | (with_reducible show Oper.wp _ _ _ _ _ _; refine wp_bin hrem rfl rfl rfl ?_) | (with_reducible show Oper.wp _ _ _ _ _ _; refine wp_shift hsh (Or.inr rfl) rfl rfl rfl ?_))
      obtain ⟨ww3, hv3⟩ := nm (World.setCell wr ⟨Z, q, none⟩ (.int .u64 ((A1 : Int))))
      have HK3 : Hid (KS [(Z, .cells (lk .u64 (V.set q (A1 : Int))) 156)] [] w ww3) := by rw [hv3]; exact hDx (HK2.out.setK 0 rfl q ((A1 : Int)))
      rw [← hv3]
      clear hv3
      clear c0 z0 a0 hor hand hsh k1 k2
      have lV2 : (V.set q (A1 : Int)).length = 5 := by rw [List.length_set, lV]
      by_cases h18 : 18 < m
      · have g18 := gt18 h18
        by_cases h4 : q < 4
        · obtain ⟨p, m1, y3, A2, A3, p0, p1, p2, p5, p3, p4, e1, e2, um1, hs3, a2, ho3, es⟩ := hyes.out h18 h4
          rw [← hV.out] at a2 es
          have g4 := lt4 h4
          have c0 := (HK3.out.rk 0 rfl lV2).cell p p5
          rw [a2] at c0
          have z0 := (HK3.out.rk 0 rfl lV2).fz
          replace es := hDx es
          clear h18 h4 hno hyes hV p0 a2
          go_upto_region 12 with (first | (with_reducible show Oper.wp _ _ _ _ _ _; refine wp_bin hquo rfl rfl rfl ?_) | (with_reducible show Oper.wp _ _ _ _ _ _; refine wp_bin hrem rfl rfl rfl ?_))
          go_upto_region 13 with (first | (with_reducible show Oper.wp _ _ _ _ _ _; refine wp_bin hquo rfl rfl rfl ?_) | (with_reducible show Oper.wp _ _ _ _ _ _; refine wp_bin hrem rfl rfl rfl ?_) | (with_reducible show Oper.wp _ _ _ _ _ _; refine wp_shift hs3 (Or.inl rfl) rfl rfl rfl ?_))
          obtain ⟨ww4, hv4⟩ := nm (World.setCell ww3 ⟨Z, p, none⟩ (.int .u64 ((A3 : Int))))
          have HK4 : Hid (KS [(Z, .cells (lk .u64 ((V.set q (A1 : Int)).set p (A3 : Int))) 156)] [] w ww4) := by rw [hv4]; exact hDx (HK3.out.setK 0 rfl p ((A3 : Int)))
          rw [← hv4]
          clear hv4
          rw [← es.out] at HK4
          clear c0 z0 es lV lV2 g18 g4 e1 e2 um1 hs3 ho3 p1 p2 p3 p4 p5
          go_wp2_with fail
          go_roundw
          case rel =>
            exact ⟨i + 1, HI.out, by first | rfl | go_num, HK4.out⟩
          exact measI 17 _ HI.out
        have g4 := nlt4 h4
        have es := hno.out (fun h => h4 h.2)
        rw [← hV.out] at es
        rw [← es] at HK3
        clear es h4 h18 hno hyes hV lV lV2
        go_upto_region 13 with (first | (with_reducible show Oper.wp _ _ _ _ _ _; refine wp_bin hquo rfl rfl rfl ?_) | (with_reducible show Oper.wp _ _ _ _ _ _; refine wp_bin hrem rfl rfl rfl ?_))
        go_wp2_with fail
        go_roundw
        case rel =>
          exact ⟨i + 1, HI.out, by first | rfl | go_num, HK3.out⟩
        exact measI 17 _ HI.out
      have g18 := ngt18 h18
      have es := hno.out (fun h => h18 h.1)
      rw [← hV.out] at es
      rw [← es] at HK3
      clear es h18 hno hyes hV lV lV2
      go_upto_region 13 with (first | (with_reducible show Oper.wp _ _ _ _ _ _; refine wp_bin hquo rfl rfl rfl ?_) | (with_reducible show Oper.wp _ _ _ _ _ _; refine wp_bin hrem rfl rfl rfl ?_))
      go_wp2_with fail
      go_roundw
      case rel =>
        exact ⟨i + 1, HI.out, by first | rfl | go_num, HK3.out⟩
      exact measI 17 _ HI.out
    have hcv : 0 = ofC c L n i := (of_C3 hiL (fun h => h0 h.1)).symm
    have g2 := npos_i h0
    clear h0 hiL
    replace hcv := hDx hcv
    go_upto_region 9 with fail
    clear g1 g2
    replace hcv := hcv.out
    obtain ⟨k, q, m, y1, y2, A0, A1, hk8, k1, k2, hquo, hrem, hq5, q1, q2, um, hsh, hand, a0, hor, hno, hyes⟩ := of_i HH.out.1 L n i HH.out.2.1 HH.out.2.2.1 HI.out 0 hcv
    replace hno := hDx hno
    replace hyes := hDx hyes
    clear hcv hk8
    obtain ⟨V, hV⟩ := nm (rw_ 5 (lim 67108864 (vs 256 (ofC c L n) i)))
    have lV : V.length = 5 := by rw [hV, rw_len']
    rw [← hV] at HK2
    rw [← hV] at a0
    replace hV := hDx hV
    have c0 := (HK2.out.rk 0 rfl lV).cell q hq5
    rw [a0] at c0
    have z0 := (HK2.out.rk 0 rfl lV).fz
    go_upto_region 11 with (first | (with_reducible show Oper.wp _ _ _ _ _ _; refine wp_bin hquo rfl rfl rfl ?_) | (with_reducible show Oper.wp _ _ _ _ _ _; refine wp_bin hrem rfl rfl rfl ?_) | (with_reducible show Oper.wp _ _ _ _ _ _; refine wp_shift hsh (Or.inr rfl) rfl rfl rfl ?_))
    obtain ⟨ww3, hv3⟩ := nm (World.setCell wr ⟨Z, q, none⟩ (.int .u64 ((A1 : Int))))
    have HK3 : Hid (KS [(Z, .cells (lk .u64 (V.set q (A1 : Int))) 156)] [] w ww3) := by rw [hv3]; exact hDx (HK2.out.setK 0 rfl q ((A1 : Int)))
    rw [← hv3]
    clear hv3
    clear c0 z0 a0 hor hand hsh k1 k2
    have lV2 : (V.set q (A1 : Int)).length = 5 := by rw [List.length_set, lV]
    by_cases h18 : 18 < m
    · have g18 := gt18 h18
      by_cases h4 : q < 4
      · obtain ⟨p, m1, y3, A2, A3, p0, p1, p2, p5, p3, p4, e1, e2, um1, hs3, a2, ho3, es⟩ := hyes.out h18 h4
        rw [← hV.out] at a2 es
        have g4 := lt4 h4
        have c0 := (HK3.out.rk 0 rfl lV2).cell p p5
        rw [a2] at c0
        have z0 := (HK3.out.rk 0 rfl lV2).fz
        replace es := hDx es
        clear h18 h4 hno hyes hV p0 a2
        go_upto_region 12 with (first | (with_reducible show Oper.wp _ _ _ _ _ _; refine wp_bin hquo rfl rfl rfl ?_) | (with_reducible show Oper.wp _ _ _ _ _ _; refine wp_bin hrem rfl rfl rfl ?_))
        go_upto_region 13 with (first | (with_reducible show Oper.wp _ _ _ _ _ _; refine wp_bin hquo rfl rfl rfl ?_) | (with_reducible show Oper.wp _ _ _ _ _ _; refine wp_bin hrem rfl rfl rfl ?_) | (with_reducible show Oper.wp _ _ _ _ _ _; refine wp_shift hs3 (Or.inl rfl) rfl rfl rfl ?_))
        obtain ⟨ww4, hv4⟩ := nm (World.setCell ww3 ⟨Z, p, none⟩ (.int .u64 ((A3 : Int))))
        have HK4 : Hid (KS [(Z, .cells (lk .u64 ((V.set q (A1 : Int)).set p (A3 : Int))) 156)] [] w ww4) := by rw [hv4]; exact hDx (HK3.out.setK 0 rfl p ((A3 : Int)))
        rw [← hv4]
        clear hv4
        rw [← es.out] at HK4
        clear c0 z0 es lV lV2 g18 g4 e1 e2 um1 hs3 ho3 p1 p2 p3 p4 p5
        go_wp2_with fail
        go_roundw
        case rel =>
          exact ⟨i + 1, HI.out, by first | rfl | go_num, HK4.out⟩
        exact measI 17 _ HI.out
      have g4 := nlt4 h4
      have es := hno.out (fun h => h4 h.2)
      rw [← hV.out] at es
      rw [← es] at HK3
      clear es h4 h18 hno hyes hV lV lV2
      go_upto_region 13 with (first | (with_reducible show Oper.wp _ _ _ _ _ _; refine wp_bin hquo rfl rfl rfl ?_) | (with_reducible show Oper.wp _ _ _ _ _ _; refine wp_bin hrem rfl rfl rfl ?_))
      go_wp2_with fail
      go_roundw
      case rel =>
        exact ⟨i + 1, HI.out, by first | rfl | go_num, HK3.out⟩
      exact measI 17 _ HI.out
    have g18 := ngt18 h18
    have es := hno.out (fun h => h18 h.1)
    rw [← hV.out] at es
    rw [← es] at HK3
    clear es h18 hno hyes hV lV lV2
    go_upto_region 13 with (first | (with_reducible show Oper.wp _ _ _ _ _ _; refine wp_bin hquo rfl rfl rfl ?_) | (with_reducible show Oper.wp _ _ _ _ _ _; refine wp_bin hrem rfl rfl rfl ?_))
    go_wp2_with fail
    go_roundw
    case rel =>
      exact ⟨i + 1, HI.out, by first | rfl | go_num, HK3.out⟩
    exact measI 17 _ HI.out
  obtain rfl : i = 17 := by omega
  try simp only [Int.cast_ofNat_Int]
  rw [ofC_v c L n HH.out.2.1 HH.out.2.2.1] at HK2
  have FA := (HK2.out.rk 0 rfl (rw_len' _ _))
  have FR := (HK2.out.rk 0 rfl (rw_len' _ _))
  go_wp2_with (first | (refine wpList_load_rk rfl _ rfl rfl FA ty156 ?_) | (refine wpList_store_rk rfl _ _ rfl rfl rfl FR ty156 (rw_len' _ _) ?_))
  have KE := HK2.out.setRow 0 rfl (lk .u64 (rw_ 5 (lim 67108864 (ofV c L n))))
  try simp only [Exit.inBlock, Exit.then]
  refine bodyPost_ret (results_rk (p := 4) (by kernel_rfl) (by rfl) (KE.rk 0 rfl (rw_len' _ _)) ty156) rfl ?_
  exact ⟨rfl, KE.below⟩
end
section
open Go.RowKit T
attribute [local go_sem] Oper.semAt_some
theorem chunk_w (blk N cap : Nat) (w : World) : Calls Tryz.prog 93 #[.slice (some ⟨blk, 0, none⟩) N cap, .int .i64 16] w fun e w' =>
  e = .returned (.func (.func 117) #[] #[.pointer (some ⟨w.heap.size, 0, none⟩), .pointer (some ⟨w.heap.size + 1, 0, none⟩)]) ∧ w' = ((w.alloc (.cells #[.slice (some ⟨blk, 0, none⟩) N cap] 52)).alloc (.cells #[.int .i64 16] 3)) := by
 go_enter Tryz.func93, Tryz.ntmps93
 go_wp2_with fail
 go_ret
 exact ⟨rfl, rfl⟩
def chE (N i : Nat) : Nat := min 16 (N - 16 * i)
def chkB (blk N i : Nat) : Array Value := #[.slice (some ⟨blk, 16 * i, none⟩) (chE N i) (chE N i)]
def nch (N : Nat) : Nat := (N + 15) / 16
def Cap117 (bs bz blk N cap : Nat) (W : World) : Prop := W.cell? ⟨bs, 0, none⟩ = some (.slice (some ⟨blk, 0, none⟩) N cap) ∧ W.cell? ⟨bz, 0, none⟩ = some (.int .i64 16)
theorem ch_full (r N cap : Nat) (hr : r < nch N) (hN : N ≤ 1000000) (hc : N ≤ cap) (hf : 16 ≤ N - 16 * r) : ∃ A B D : Nat, A = 16 * r ∧ chE N r = 16 ∧ (A : Int) < N ∧ (0 : Int) ≤ A ∧ (A : Int) ≤ N ∧ (B : Int) ≤ N ∧ (B : Int) ≤ cap ∧ (A : Int) ≤ B ∧ (0 : Int) ≤ B ∧ (A : Int) ≤ cap ∧ N - A = D ∧ (16 : Int) ≤ D ∧ ¬ (D : Int) < 16 ∧ B - A = 16 ∧ IntKind.i64.wrap ((A : Int) + 16) = B ∧ wrap64 ((A : Int) + 16) = B ∧ B = 16 * (r + 1) ∧ N + 16 - (intOf (.int .i64 (B : Int))).toNat < N + 16 - (intOf (.int .i64 (A : Int))).toNat := by
 unfold nch at hr
 obtain ⟨b1, b2⟩ := i64b (x := ((16 * r : Nat) : Int) + 16) (n := 16 * (r + 1)) (by omega) (by omega)
 refine ⟨16 * r, 16 * (r + 1), N - 16 * r, rfl, by unfold chE; omega, by omega, by omega, by omega, by omega, by omega, by omega, by omega, by omega, rfl, by omega, by omega, by omega, b2, b1, rfl, ?_⟩
 simp only [intOf, Int.toNat_natCast]
 omega
theorem ch_part (r N cap : Nat) (hr : r < nch N) (hN : N ≤ 1000000) (hc : N ≤ cap) (hf : ¬ 16 ≤ N - 16 * r) : ∃ A B D : Nat, A = 16 * r ∧ chE N r = D ∧ (A : Int) < N ∧ (0 : Int) ≤ A ∧ (A : Int) ≤ N ∧ (N : Int) ≤ cap ∧ (0 : Int) ≤ N ∧ (A : Int) ≤ cap ∧ N - A = D ∧ ¬ (16 : Int) ≤ D ∧ (D : Int) < 16 ∧ IntKind.i64.wrap ((A : Int) + D) = N ∧ wrap64 ((A : Int) + D) = N ∧ IntKind.i64.wrap ((A : Int) + 16) = B ∧ wrap64 ((A : Int) + 16) = B ∧ B = 16 * (r + 1) ∧ N + 16 - (intOf (.int .i64 (B : Int))).toNat < N + 16 - (intOf (.int .i64 (A : Int))).toNat := by
 unfold nch at hr
 obtain ⟨b1, b2⟩ := i64b (x := ((16 * r : Nat) : Int) + 16) (n := 16 * (r + 1)) (by omega) (by omega)
 obtain ⟨a1, a2⟩ := i64b (x := ((16 * r : Nat) : Int) + ((N - 16 * r : Nat) : Int)) (n := N) (by omega) (by omega)
 refine ⟨16 * r, 16 * (r + 1), N - 16 * r, rfl, by unfold chE; omega, by omega, by omega, by omega, by omega, by omega, by omega, rfl, by omega, by omega, a2, a1, b2, b1, rfl, ?_⟩
 simp only [intOf, Int.toNat_natCast]
 omega
theorem ch_end (r N : Nat) (h : r ≤ nch N) (h2 : ¬ r < nch N) : ¬ ((16 * r : Nat) : Int) < N ∧ r = nch N := by
 unfold nch at *
 omega
theorem chunk_tells (blk N cap bs bz nn : Nat) (hN : N ≤ 1000000) (hc : N ≤ cap) :
  Tells Fence.wide nn Tryz.prog 117 #[.pointer (some ⟨bs, 0, none⟩), .pointer (some ⟨bz, 0, none⟩)] (chkB blk N) (fun i => i < nch N) (fun _ => True) (fun m => m = nch N) (Cap117 bs bz blk N cap) := by
 intro l J Jx W hJ hcap hY h0
 have HJ := hDx hJ
 have HC := hDx hcap
 have HY := hDx hY
 have HH := hDx (And.intro hN hc)
 clear hJ hcap hY hN hc
 refine callsIn_of_wp Tryz.func117 rfl trivial ?_ rfl
 simp only [Tryz.ntmps117, List.size_toArray, List.length_cons, List.length_nil, Nat.reduceAdd, Nat.reduceSub, Array.replicate_succ, Array.replicate_zero, List.push_toArray, List.append_toArray, List.nil_append, List.cons_append]
 gi_wp2
 gi_loopw [4] (fun p wr => ∃ r : Nat, r ≤ nch N ∧ p = .int .i64 ((16 * r : Nat) : Int) ∧ J r wr) (fun p _ => N + 16 - (intOf p).toNat)
 case atStart => exact ⟨0, Nat.zero_le _, rfl, h0⟩
 obtain ⟨r, hr, rfl, hj⟩ := hrel
 clear h0
 obtain ⟨k1, k2⟩ := HC.out _ _ hj
 by_cases hlt : r < nch N
 ·by_cases hf : 16 ≤ N - 16 * r
  ·obtain ⟨A, B, D, hA, hE, g1, g2, g3, g4, g5, g6, g7, g8, g9, g10, g11, g12, g13, g14, hB, hm⟩ := ch_full r N cap hlt HH.out.1 HH.out.2 hf
   have hyy := HY.out r _ (HJ.out r wr _ hj (Below.refl _ _).drew) hlt
   unfold chkB at hyy
   rw [hE, ← hA] at hyy
   rw [← hA]
   obtain ⟨fn, tmps, assign, body, hy, hR⟩ := hyy
   have HL := hDx (And.intro hlt (And.intro hB hm))
   clear hlt hr hA hB hm hj hE hf
   gi_wp2
   refine wpIn_wide.2 ?_
   go_still (by kernel_rfl)
   gi_wp2
   refine ⟨fun h => (by cases h), hR.mono ?_⟩
   rintro e W3 (⟨rfl, hgo, hJ3⟩ | ⟨rfl, hJx3⟩)
   ·obtain ⟨k3, k4⟩ := HC.out _ _ hJ3
    clear k1 k2
    gi_wp2
    go_roundw
    case rel => exact ⟨r + 1, HL.out.1, by rw [← HL.out.2.1], hJ3⟩
    exact HL.out.2.2
   gi_wp2
   refine bodyPost_ret (results_none rfl _ _ _) rfl ?_
   exact ⟨⟨_, rfl⟩, .inr hJx3⟩
  obtain ⟨A, B, D, hA, hE, g1, g2, g3, g4, g5, g6, g7, g8, g9, g10, g11, g12, g13, hB, hm⟩ := ch_part r N cap hlt HH.out.1 HH.out.2 hf
  have hyy := HY.out r _ (HJ.out r wr _ hj (Below.refl _ _).drew) hlt
  unfold chkB at hyy
  rw [hE, ← hA] at hyy
  rw [← hA]
  obtain ⟨fn, tmps, assign, body, hy, hR⟩ := hyy
  have HL := hDx (And.intro hlt (And.intro hB hm))
  clear hlt hr hA hB hm hj hE hf
  gi_wp2
  refine wpIn_wide.2 ?_
  go_still (by kernel_rfl)
  gi_wp2
  refine ⟨fun h => (by cases h), hR.mono ?_⟩
  rintro e W3 (⟨rfl, hgo, hJ3⟩ | ⟨rfl, hJx3⟩)
  ·obtain ⟨k3, k4⟩ := HC.out _ _ hJ3
   clear k1 k2
   gi_wp2
   go_roundw
   case rel => exact ⟨r + 1, HL.out.1, by rw [← HL.out.2.1], hJ3⟩
   exact HL.out.2.2
  gi_wp2
  refine bodyPost_ret (results_none rfl _ _ _) rfl ?_
  exact ⟨⟨_, rfl⟩, .inr hJx3⟩
 obtain ⟨e1, e2⟩ := ch_end r N hr hlt
 clear hlt hr
 have HE := hDx e2
 clear e2
 gi_wp2
 go_end0
 exact ⟨⟨_, rfl⟩, .inl (HE.out ▸ hj)⟩
end
section
open Go.RowKit
section
variable {P : Program} {ops : Array Oper}
theorem calm_wpAny {Q : Exit → Act → World → Prop} {a0 : Act} {w : World} {l : List Oper} (n : Nat) (ds fr : List Tmp) (av : List (List Tmp)) (F : Tmp → Fct) (hB : calmB l.toArray n ds = true)
  (hsz : ds.all (fun d => decide (d < a0.tmps.size)) = true) (hav : availB l.toArray (l.take n) av = true) (hO : CalmL P F fr ds a0 w.drew (l.take n) av)
  (hE : ∀ V u, Below w.heap.size w.drew u → (∀ d, d ∈ ds → (F d).p (V d) u) → (∀ c d, c ∈ ds → d ∈ ds → c ∈ fr → d ∈ fr → c ≠ d → V c ≠ V d) → wpList P l.toArray Q (l.drop n) ⟨fill V a0.tmps ds, a0.defers⟩ u) :
  wpAny P .any l.toArray Q l.toArray.size (Array.replicate l.toArray.size false) a0 w.drew := by
 simp only [calmB, Bool.and_eq_true, decide_eq_true_eq] at hB
 obtain ⟨⟨⟨⟨⟨hn, hs⟩, hc⟩, ho⟩, hh⟩, hq⟩ := hB
 have hsz' : ∀ d, d ∈ ds → d < a0.tmps.size := fun d hd => by simpa using List.all_eq_true.1 hsz d hd
 have inv0 : HeadInv .any l.toArray n (Array.replicate l.toArray.size false) :=
  ⟨by simp, fun j oj _ hl => (by rw [getD_replicate_false] at hl; cases hl), fun t _ ht => getD_in (by simpa using ht) (getD_replicate_false _ _)⟩
 have hC0 : Calm F fr ds a0 w.drew l.toArray n (Array.replicate l.toArray.size false) a0 w.drew :=
  ⟨Below.refl _ _, ⟨rfl, rfl, fun _ _ => rfl⟩, fun j d _ hl _ => (by rw [getD_replicate_false] at hl; cases hl), fun j d _ hl _ _ => (by rw [getD_replicate_false] at hl; cases hl), fun i j c d _ _ hl _ _ _ _ _ _ => (by rw [getD_replicate_false] at hl; cases hl)⟩
 have H := calm_any (Q := Q) (g := l.toArray.size - n) (F := F) (fr := fr) (i0 := l.toArray.size) hs hc hn ho hh hsz' (CalmL.all hav hO) (fun _ _ _ _ _ h => absurd (Nat.lt_trans h hn) (Nat.lt_irrefl _)) (fun a u hC => ?_) n _ a0 w.drew (by have := hn; simp at this ⊢; omega) inv0 hC0
 ·rw [show n + (l.toArray.size - n) = l.toArray.size by omega] at H
  exact H
 have hdl : (l.drop n).length = l.toArray.size - n := by simp
 have hat : ∀ d, d ∈ ds → ∃ j, j < n ∧ (doneB l.toArray.size n).getD j false = true ∧ (l.toArray[j]?).bind (·.dst) = some d := fun d hd => by
  obtain ⟨j, hj, rfl⟩ := List.mem_iff_getElem.1 hd
  have h1 := hh
  simp only [headB, Bool.and_eq_true, decide_eq_true_eq] at h1
  have h2 := h1.1.1
  have hln : ds.length = n := by have := congrArg List.length h2; simp at this hn; omega
  have hjn : j < n := by omega
  refine ⟨j, hjn, ?_, ?_⟩
  ·have : j < l.length := by simp at hn; omega
   show (Array.replicate n true ++ Array.replicate (l.toArray.size - n) false).getD j false = true
   rw [gDx, Array.getElem?_append_left (by simpa using hjn)]
   simp [hjn]
  ·have h3 : ((l.toArray.toList.take n).map (·.dst))[j]? = (ds.map some)[j]? := by rw [h2]
   rw [List.getElem?_map, List.getElem?_take_of_lt hjn, List.getElem?_map, Array.getElem?_toList, List.getElem?_eq_getElem hj] at h3
   cases hx : l.toArray[j]? with
   | none => rw [hx] at h3; cases h3
   | some o => rw [hx] at h3; simpa using h3
 have := wpAny_of_seq (md := .any) (ops := l.toArray) (Q' := Q) (l.drop n) n (doneB l.toArray.size n) a u (fun j => by rw [List.getElem?_drop]; exact (List.getElem?_toArray ..).symm) (by rw [hdl]; exact hq) (by
  have h3 := hE (fun t => a.eval (.tmp t)) u hC.below (fun d hd => by
    obtain ⟨j, h1, h2, h3⟩ := hat d hd
    exact hC.facts j d h1 h2 h3) (fun c d hc hd hf1 hf2 hne => by
    obtain ⟨i, h1, h2, h3⟩ := hat c hc
    obtain ⟨j, h4, h5, h6⟩ := hat d hd
    exact hC.ne i j c d h1 h4 h2 h5 h3 h6 hf1 hf2 hne)
  rw [hC.shape.act]
  have e : (fun t => a.eval (.tmp t)) = (fun t => (⟨fill (fun t => a.eval (.tmp t)) a0.tmps ds, a0.defers⟩ : Act).eval (.tmp t)) := by rw [← hC.shape.act]
  exact h3)
 rwa [hdl] at this
end
def noDefer (o : Oper) : Bool := match o.op with | .defer _ => false | _ => true
theorem noDefer_ne {o : Oper} (h : noDefer o = true) : ∀ c, o.op ≠ .defer c := by
 intro c e
 unfold noDefer at h
 rw [e] at h
 cases h
section
variable {P : Program} {l n : Nat} {Q : Exit → Act → World → Prop}
theorem opIn_of_wp {o : Oper} {a : Act} {w : World} {K : Act → World → Prop} (hnd : noDefer o = true) (h : o.wp P a w K Q) : o.wpIn (Fence.wide.inRound l) n P a w K Q := by
 refine ⟨fun _ _ => trivial, ?_⟩
 rw [Fence.inRound_round, Oper.semAt_some _ _ _ (noDefer_ne hnd)]
 unfold Oper.wp at h
 generalize (execOp a.eval o).run P w = r at h ⊢
 cases r with
 | ok x w' =>
  cases x <;> simp only [Oper.upon, Oper.uponIn] at h ⊢
  all_goals first
   | exact h
   | exact ⟨fun h => (by cases h), CallsIn.inRound l (callsIn_wide.2 h)⟩
   | exact ⟨fun h => (by cases h), fun c cs _ => let ⟨v, w', r, s⟩ := h c cs; ⟨v, w', r, stepsIn_wide.2 s⟩⟩
 | halt x w' => cases x <;> simp only [Oper.upon, Oper.uponIn] at h ⊢ <;> exact h
theorem wpAnyIn_of {md : Region.Mode} {ops : Array Oper} (hlo : ¬ LetsOut Q) (hn : ops.toList.all noDefer = true) : ∀ (fuel : Nat) (listed : Array Bool) (a : Act) (w : World), wpAny P md ops Q fuel listed a w → wpAnyIn (Fence.wide.inRound l) n P md ops Q fuel listed a w
 | 0, _, _, _, h => h
 | fuel + 1, listed, a, w, h => by
  refine ⟨h.1, fun i hi => ?_⟩
  have h2 := h.2 i hi
  unfold wpOp at h2
  unfold wpOpIn
  cases ho : ops[i]? with
  | none =>
   rw [ho] at h2
   exact wpAnyIn_of hlo hn fuel _ _ _ h2
  | some o =>
   rw [ho] at h2
   simp only [] at h2 ⊢
   have hno : noDefer o = true := List.all_eq_true.1 hn o (by rw [← Array.getElem?_toList] at ho; exact List.mem_of_getElem? ho)
   by_cases hw : Region.wanted o (yielded ops a.tmps) = true
   ·rw [if_pos hw] at h2 ⊢
    have h1 := h2.resolve_right (fun x => hlo x.2)
    exact Oper.wpIn_mono (fun a' w' h' => wpAnyIn_of hlo hn fuel _ a' w' h') (opIn_of_wp hno h1)
   ·rw [if_neg hw] at h2 ⊢
    exact ⟨fun _ _ => trivial, wpAnyIn_of hlo hn fuel _ _ w h2⟩
theorem wpIn_region_calm {id : Nat} {a0 : Act} {w : World} {L : List Oper} (n0 : Nat) (ds fr : List Tmp) (av : List (List Tmp)) (F : Tmp → Fct) (hm : P.follows .mixedOrders = true) (hlo : ¬ LetsOut Q) (hn : L.all noDefer = true) (hB : calmB L.toArray n0 ds = true)
  (hsz : ds.all (fun d => decide (d < a0.tmps.size)) = true) (hav : availB L.toArray (L.take n0) av = true) (hO : CalmL P F fr ds a0 w.drew (L.take n0) av)
  (hE : ∀ V u, Below w.heap.size w.drew u → (∀ d, d ∈ ds → (F d).p (V d) u) → (∀ c d, c ∈ ds → d ∈ ds → c ∈ fr → d ∈ fr → c ≠ d → V c ≠ V d) → wpList P L.toArray Q (L.drop n0) ⟨fill V a0.tmps ds, a0.defers⟩ u) :
  (Code.region id L.toArray true).wpIn (Fence.wide.inRound l) n P Q a0 w :=
 wpIn_region_any hm (wpAnyIn_of hlo (by simpa using hn) _ _ _ _ (calm_wpAny n0 ds fr av F hB hsz hav hO hE))
end
end
section
open Go.RowKit T
theorem run_bytes2 (s : ByteArray) (w : World) : ∃ z cap, cap = s.size + z ∧ (convert 9 52 (.string s)).run Tryz.prog w = .ok (.slice (some ⟨w.heap.size, 0, none⟩) s.size cap) (w.drew.alloc (bob (bl s) z)) := by
 have h := grownCap_ge w s.size 0 5
 refine ⟨grownCap w s.size 0 5 - s.size, grownCap w s.size 0 5, by omega, ?_⟩
 rw [run_bytes_of_string w 9 52 5 s und9 Tryz.underlying52 (by kernel_rfl)]
 have e : bytesRow s (grownCap w s.size 0 5) = lk .u8 (bl s ++ zi (grownCap w s.size 0 5 - s.size)) := by
  apply Array.toList_inj.1
  simp [bytesRow, lk, bl, zi, List.map_map, Function.comp_def]
 rw [e]
 unfold bob
 rw [lk_size, List.length_append, zi_len]
def kA (key : ByteArray) (k j : Nat) : Nat := if j % 4 = 3 ∧ j < 4 * k then bt key j &&& 15 else bt key j
def kB (key : ByteArray) (k j : Nat) : Nat := if j % 4 = 3 ∧ j < 16 then bt key j &&& 15 else if j % 4 = 0 ∧ 0 < j ∧ j < 4 + 4 * k then bt key j &&& 252 else bt key j
def pkB (key : ByteArray) : Nat → Nat := kB key 3
theorem kA_zero (key : ByteArray) (h : key.size = 32) : rw_ 32 (kA key 0) = bl key := by
 rw [bl_rw, h]
 exact rw_ext fun j _ => by unfold kA; rw [if_neg (by omega)]
theorem kA_four (key : ByteArray) : rw_ 32 (kA key 4) = rw_ 32 (kB key 0) := rw_ext fun j _ => by
 unfold kA kB
 by_cases h : j % 4 = 3 ∧ j < 16
 ·rw [if_pos (by omega), if_pos h]
 ·rw [if_neg (by omega), if_neg h, if_neg (by omega)]
theorem kA_set (key : ByteArray) (k : Nat) : rw_ 32 (kA key (k + 1)) = (rw_ 32 (kA key k)).set (3 + 4 * k) ((bt key (3 + 4 * k) &&& 15 : Nat) : Int) ∧ kA key k (3 + 4 * k) = bt key (3 + 4 * k) := by
 refine ⟨?_, by unfold kA; rw [if_neg (by omega)]⟩
 rw [rw_set]
 refine rw_ext fun j _ => ?_
 unfold kA upd
 by_cases e : j = 3 + 4 * k
 ·subst e; rw [if_pos (by omega), if_pos rfl]
 rw [if_neg e]
 simp only []
 by_cases h : j % 4 = 3 ∧ j < 4 * k
 ·rw [if_pos (by omega), if_pos h]
 rw [if_neg (by omega), if_neg h]
theorem kB_set (key : ByteArray) (k : Nat) (hk : k < 3) : rw_ 32 (kB key (k + 1)) = (rw_ 32 (kB key k)).set (4 + 4 * k) ((bt key (4 + 4 * k) &&& 252 : Nat) : Int) ∧ kB key k (4 + 4 * k) = bt key (4 + 4 * k) := by
 refine ⟨?_, by unfold kB; rw [if_neg (by omega), if_neg (by omega)]⟩
 rw [rw_set]
 refine rw_ext fun j _ => ?_
 unfold kB upd
 by_cases e : j = 4 + 4 * k
 ·subst e; rw [if_neg (by omega), if_pos (by omega), if_pos rfl]
 rw [if_neg e]
 simp only []
 by_cases h : j % 4 = 3 ∧ j < 16
 ·rw [if_pos h, if_pos h]
 rw [if_neg h, if_neg h]
 by_cases h2 : j % 4 = 0 ∧ 0 < j ∧ j < 4 + 4 * k
 ·rw [if_pos (by omega), if_pos h2]
 rw [if_neg (by omega), if_neg h2]
theorem and_le8 (a b : Nat) (ha : a < 256) : a &&& b < 256 := Nat.lt_of_le_of_lt Nat.and_le_left ha
theorem pkB_lt (key : ByteArray) (j : Nat) : pkB key j < 256 := by
 have := bt_lt key j
 unfold pkB kB
 repeat' split
 ·exact and_le8 _ _ this
 ·exact and_le8 _ _ this
 exact this
theorem pkB_hi (key : ByteArray) (j : Nat) (h : 16 ≤ j) : pkB key j = bt key j := by
 unfold pkB kB
 rw [if_neg (by omega), if_neg (by omega)]
def RN (key : ByteArray) : Nat := vs 256 (pkB key) 16
def SN (key : ByteArray) : Nat := vs 256 (fun j => bt key (16 + j)) 16
theorem RN_ofV (key : ByteArray) : ofV (pkB key) 16 0 = RN key := by unfold ofV RN; rw [if_neg (by decide), Nat.add_zero]
theorem RN_lt (key : ByteArray) : RN key < 340282366920938463463374607431768211456 := vs_lt (b := 256) (by decide) 16 (fun j _ => pkB_lt key j)
theorem SN_byte (key : ByteArray) (i : Nat) (hi : i < 16) : lim 256 (SN key) i = bt key (16 + i) := lim_vs (by decide) 16 i (fun j _ => bt_lt _ _) hi
def pcV (s : ByteArray) (k : Nat) : Nat := ofV (fun j => bt s (16 * k + j)) (chE s.size k) (chE s.size k)
theorem chE_le (N k : Nat) : chE N k ≤ 16 := by unfold chE; omega
theorem pcV_lt (s : ByteArray) (k : Nat) : pcV s k < 680564733841876926926749214863536422912 := by
 have h := vs_lt (b := 256) (f := fun j => bt s (16 * k + j)) (by decide) (chE s.size k) (fun j _ => bt_lt _ _)
 have h2 : 256 ^ chE s.size k ≤ 256 ^ 16 := Nat.pow_le_pow_right (by decide) (chE_le _ _)
 unfold pcV ofV
 split
 ·simp only [Nat.reducePow] at h2
  omega
 simp only [Nat.reducePow] at h2
 omega
def PHn (key s : ByteArray) : Nat → Nat
 | 0 => 0
 | k + 1 => (PHn key s k + pcV s k) * RN key % Q
theorem Q_pos : 0 < Q := by decide +kernel
theorem PHn_lt (key s : ByteArray) : ∀ k, PHn key s k < Q
 | 0 => Q_pos
 | k + 1 => Nat.mod_lt _ Q_pos
def tagN (key s : ByteArray) : Nat := PHn key s (nch s.size) + SN key
def tagS (key s : ByteArray) : ByteArray := strOfNums (rw_ 16 (lim 256 (tagN key s)))
def rF5 (key : ByteArray) : Nat → Nat := lim 67108864 (RN key)
def aF5 (f g : Nat → Nat) (i j : Nat) : Nat := if j < i then f j + g j else f j
def hF5 (key s : ByteArray) : Nat → Nat → Nat
 | 0 => fun _ => 0
 | k + 1 => car (tmF (car (aF5 (hF5 key s k) (lim 67108864 (pcV s k)) 5)) (rF5 key) 25)
theorem aF5_set (f g : Nat → Nat) (i : Nat) : rw_ 5 (aF5 f g (i + 1)) = (rw_ 5 (aF5 f g i)).set i ((f i + g i : Nat) : Int) ∧ aF5 f g i i = f i := by
 refine ⟨?_, by unfold aF5; rw [if_neg (by omega)]⟩
 rw [rw_set]
 refine rw_ext fun j _ => ?_
 unfold aF5 upd
 by_cases e : j = i
 ·subst e; rw [if_pos (by omega), if_pos rfl]
 rw [if_neg e]
 simp only []
 by_cases h : j < i
 ·rw [if_pos (by omega), if_pos h]
 rw [if_neg (by omega), if_neg h]
theorem aF5_zero (f g : Nat → Nat) : aF5 f g 0 = f := by
 funext j; unfold aF5; rw [if_neg (by omega)]
theorem aF5_v (f g : Nat → Nat) : vs 67108864 (aF5 f g 5) 5 = vs 67108864 f 5 + vs 67108864 g 5 := by
 have h := vs_lin 67108864 1 f g 5
 rw [Nat.one_mul] at h
 rw [← h]
 exact vs_ext 5 fun j hj => by unfold aF5; rw [if_pos hj, Nat.one_mul]
theorem lim5 {n : Nat} (h : n < 1361129467683753853853498429727072845824) : vs 67108864 (lim 67108864 n) 5 = n := by
 rw [vs_lim]
 exact Nat.mod_eq_of_lt (Nat.lt_of_lt_of_le h (by decide))
theorem rF5_le (key : ByteArray) : ∀ j, j < 5 → rF5 key j ≤ 67108864 := fun j _ => Nat.le_of_lt (lim_lt (by decide) _ _)
theorem hF5_all (key s : ByteArray) : ∀ k, Nc (hF5 key s k) ∧ vs 67108864 (hF5 key s k) 5 % Q = PHn key s k
 | 0 => ⟨⟨Nat.zero_le _, fun _ _ _ => by show 0 < 67108864; decide⟩, by
   rw [show vs 67108864 (hF5 key s 0) 5 = 0 from vs_zero _ _ 5 (fun _ _ => rfl)]
   rfl⟩
 | k + 1 => by
  obtain ⟨h1, h2⟩ := hF5_all key s k
  have hA : Bg (aF5 (hF5 key s k) (lim 67108864 (pcV s k)) 5) := fun j hj => by
   have a1 := h1.le j hj
   have a2 := lim_lt (b := 67108864) (by decide) (pcV s k) j
   unfold aF5
   rw [if_pos hj]
   omega
  have hC := car_nc hA
  have hT : Bg (tmF (car (aF5 (hF5 key s k) (lim 67108864 (pcV s k)) 5)) (rF5 key) 25) := fun j _ => tmF_big hC.le (rF5_le key) j
  refine ⟨car_nc hT, ?_⟩
  show vs 67108864 (car (tmF (car (aF5 (hF5 key s k) (lim 67108864 (pcV s k)) 5)) (rF5 key) 25)) 5 % Q = (PHn key s k + pcV s k) * RN key % Q
  rw [car_mod, tmF_mod, Nat.mul_mod, car_mod, ← Nat.mul_mod, aF5_v, lim5 (Nat.lt_trans (pcV_lt s k) (by decide)), rF5, lim5 (Nat.lt_trans (RN_lt key) (by decide))]
  have e : (vs 67108864 (hF5 key s k) 5 + pcV s k) % Q = (PHn key s k + pcV s k) % Q := by
   conv => rhs; rw [Nat.add_mod, Nat.mod_eq_of_lt (PHn_lt key s k)]
   rw [Nat.add_mod, h2]
  rw [Nat.mul_mod, e, ← Nat.mul_mod]
theorem hF5_bg (key s : ByteArray) (k : Nat) : Bg (aF5 (hF5 key s k) (lim 67108864 (pcV s k)) 5) := fun j hj => by
 have a1 := (hF5_all key s k).1.le j hj
 have a2 := lim_lt (b := 67108864) (by decide) (pcV s k) j
 unfold aF5
 rw [if_pos hj]
 omega
def cS (N S i : Nat) : Nat := (N % 256 ^ i + S % 256 ^ i) / 256 ^ i
theorem cS_le (N S i : Nat) : cS N S i ≤ 1 := by
 have h1 : N % 256 ^ i < 256 ^ i := Nat.mod_lt _ (Nat.pow_pos (by decide))
 have h2 : S % 256 ^ i < 256 ^ i := Nat.mod_lt _ (Nat.pow_pos (by decide))
 unfold cS
 have : (N % 256 ^ i + S % 256 ^ i) / 256 ^ i < 2 := Nat.div_lt_of_lt_mul (by omega)
 omega
theorem cS_zero (N S : Nat) : cS N S 0 = 0 := by simp [cS, Nat.mod_one]
theorem cS_step (N S i : Nat) : (cS N S i + (lim 256 N i + lim 256 S i)) % 256 = lim 256 (N + S) i ∧ (cS N S i + (lim 256 N i + lim 256 S i)) / 256 = cS N S (i + 1) := by
 unfold cS lim
 have hp : 0 < 256 ^ i := Nat.pow_pos (by decide)
 have e1 : N % 256 ^ (i + 1) = N % 256 ^ i + 256 ^ i * (N / 256 ^ i % 256) := by rw [Nat.pow_succ, Nat.mod_mul]
 have e2 : S % 256 ^ (i + 1) = S % 256 ^ i + 256 ^ i * (S / 256 ^ i % 256) := by rw [Nat.pow_succ, Nat.mod_mul]
 rw [e1, e2]
 have e3 : N = 256 ^ i * (N / 256 ^ i) + N % 256 ^ i := (Nat.div_add_mod _ _).symm
 have e4 : S = 256 ^ i * (S / 256 ^ i) + S % 256 ^ i := (Nat.div_add_mod _ _).symm
 have e5 : (N + S) / 256 ^ i = N / 256 ^ i + S / 256 ^ i + (N % 256 ^ i + S % 256 ^ i) / 256 ^ i := by
  conv => lhs; rw [e3, e4]
  rw [show 256 ^ i * (N / 256 ^ i) + N % 256 ^ i + (256 ^ i * (S / 256 ^ i) + S % 256 ^ i) = (N % 256 ^ i + S % 256 ^ i) + 256 ^ i * (N / 256 ^ i + S / 256 ^ i) by rw [Nat.mul_add]; omega, Nat.add_mul_div_left _ _ hp]
  omega
 rw [e5, Nat.pow_succ, ← Nat.div_div_eq_div_mul]
 rw [show N % 256 ^ i + 256 ^ i * (N / 256 ^ i % 256) + (S % 256 ^ i + 256 ^ i * (S / 256 ^ i % 256)) = (N % 256 ^ i + S % 256 ^ i) + 256 ^ i * (N / 256 ^ i % 256 + S / 256 ^ i % 256) by rw [Nat.mul_add]; omega, Nat.add_mul_div_left _ _ hp]
 generalize (N % 256 ^ i + S % 256 ^ i) / 256 ^ i = c
 generalize N / 256 ^ i = a
 generalize S / 256 ^ i = b
 omega
def tK (n k j : Nat) : Nat := if j < k then lim 256 n j else 0
theorem tK_set (m n k : Nat) : rw_ m (tK n (k + 1)) = (rw_ m (tK n k)).set k (lim 256 n k : Int) := by
 rw [rw_set]
 refine rw_ext fun j _ => ?_
 unfold tK upd
 by_cases e : j = k
 ·subst e; rw [if_pos (by omega), if_pos rfl]
 rw [if_neg e]
 simp only []
 by_cases h : j < k
 ·rw [if_pos (by omega), if_pos h]
 rw [if_neg (by omega), if_neg h]
theorem tK_all (m n : Nat) : rw_ m (tK n m) = rw_ m (lim 256 n) := rw_ext fun j hj => by unfold tK; rw [if_pos hj]
theorem tK_zero (m n : Nat) : rw_ m (tK n 0) = rw_ m (fun _ => 0) := rw_ext fun j hj => by unfold tK; rw [if_neg (by omega)]
end
end Go.Proofs.YtoplbfijodebmaaGreatDoor
