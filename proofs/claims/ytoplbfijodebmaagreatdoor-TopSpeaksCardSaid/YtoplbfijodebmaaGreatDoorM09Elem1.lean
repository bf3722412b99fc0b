/-
  The walk.
-/
import Derived.Test.YtoplbfijodebmaaGreatDoorM08Wide
import Derived.StillTailTactics
set_option linter.unusedVariables false
set_option linter.unusedSimpArgs false
set_option maxRecDepth 100000
set_option maxHeartbeats 40000000
namespace Go.Proofs.YtoplbfijodebmaaGreatDoor
section
open Go.RowKit
def carX (v : List Int) (i : Nat) : Int := IntKind.u64.wrap (bits .and .u64 (ia v (i + 1)) 2251799813685247 + ia v i / 2251799813685248)
def carD (v : List Int) : Nat → List Int
 | 0 => v
 | k + 1 => (carD v k).set (4 - k) (carX (carD v k) (3 - k))
theorem carD_len (v : List Int) : ∀ k, (carD v k).length = v.length
 | 0 => rfl
 | k + 1 => by rw [carD, List.length_set, carD_len v k]
def carF (v : List Int) : List Int := (carD v 4).set 0 (IntKind.u64.wrap (bits .and .u64 (ia (carD v 4) 0) 2251799813685247 + IntKind.u64.wrap (19 * (ia v 4 / 2251799813685248))))
theorem carF_len (v : List Int) : (carF v).length = v.length := by rw [carF, List.length_set, carD_len]
theorem carried_any (v : List Int) (hv : v.length = 5) (w : World) : Calls Tryz.prog 107 #[.agg (lk .u64 v)] w fun e w' => e = .returned (.agg (lk .u64 (carF v))) ∧ Below w.heap.size w w' := by
 go_enter Tryz.func107, Tryz.ntmps107
 have HK0 := hDx (KS.start w)
 go_upto_region 1 with (fail)
 have hm1 := ((HK0.out.made (.cells (lk .u64 v) 141)).made (.cells #[.int .u64 0, .int .u64 0, .int .u64 0, .int .u64 0, .int .u64 0] 141))
 try rw [show ((World.alloc w (.cells (lk .u64 v) 141))).heap.size = w.heap.size + 1 by simp] at hm1
 obtain ⟨R, hgR⟩ := nm (w.heap.size + 1)
 obtain ⟨A, hgA⟩ := nm w.heap.size
 obtain ⟨ww1, hv1⟩ := nm (World.alloc (World.alloc w (.cells (lk .u64 v) 141)) (.cells #[.int .u64 0, .int .u64 0, .int .u64 0, .int .u64 0, .int .u64 0] 141))
 rw [← hv1, ← hgR, ← hgA] at hm1
 rw [← hv1]
 try rw [← hgR]
 try rw [← hgA]
 have HK1 : Hid (KS [(R, .cells (lk .u64 (zi 5)) 141), (A, .cells (lk .u64 v) 141)] [] w ww1) := hDx hm1
 clear hm1 hv1 hgA hgR
 have c4 := (HK1.out.rk 1 rfl hv).cell 4 (by decide)
 go_upto_region 3 with (fail)
 go_loopw [4] (fun i wr => ∃ j : Nat, j ≤ 4 ∧ i = .int .i64 (j : Int) ∧ KS [(R, .cells (lk .u64 (zi 5)) 141), (A, .cells (lk .u64 (carD v (4 - j))) 141)] [] w wr) (fun i _ => (intOf i).toNat)
 case atStart => exact ⟨4, Nat.le_refl _, rfl, HK1.out⟩
 obtain ⟨j, hj, rfl, HK⟩ := hrel
 have HK2 := hDx HK
 clear HK c4
 rcases Nat.eq_zero_or_pos j with h0 | h0
 ·subst h0
  have c0 := (HK2.out.rk 1 rfl ((carD_len v _).trans hv)).cell 0 (by decide)
  have fz := (HK2.out.rk 1 rfl ((carD_len v _).trans hv)).fz
  go_upto_region 7 with (fail)
  obtain ⟨ww3, hv3⟩ := nm (World.setCell wr ⟨A, 0, none⟩ (.int .u64 (IntKind.u64.wrap (bits .and .u64 (ia (carD v 4) 0) 2251799813685247 + IntKind.u64.wrap (19 * (ia v 4 / 2251799813685248))))))
  have HK3 : Hid (KS [(R, .cells (lk .u64 (zi 5)) 141), (A, .cells (lk .u64 (carF v)) 141)] [] w ww3) := by rw [hv3]; exact hDx (HK2.out.setK 1 rfl 0 (IntKind.u64.wrap (bits .and .u64 (ia (carD v 4) 0) 2251799813685247 + IntKind.u64.wrap (19 * (ia v 4 / 2251799813685248)))))
  rw [← hv3]
  clear hv3
  have FA := (HK3.out.rk 1 rfl ((carF_len v).trans hv))
  have FR := (HK3.out.rk 0 rfl (zi_len 5))
  go_wp2_with (first | (refine wpList_load_rk rfl _ rfl rfl FA ty141 ?_) | (refine wpList_store_rk rfl _ _ rfl rfl rfl FR ty141 ((carF_len v).trans hv) ?_))
  have KE := HK3.out.setRow 0 rfl (lk .u64 (carF v))
  try simp only [Exit.inBlock, Exit.then]
  refine bodyPost_ret (results_rk (p := 2) (by kernel_rfl) (by rfl) (KE.rk 0 rfl ((carF_len v).trans hv)) ty141) rfl ?_
  exact ⟨rfl, KE.below⟩
 obtain ⟨m, rfl⟩ : ∃ m, j = m + 1 := ⟨j - 1, by omega⟩
 obtain ⟨jj, hjj⟩ : ∃ x : Nat, x = m + 1 := ⟨_, rfl⟩
 obtain ⟨V, hV⟩ : ∃ V, V = carD v (4 - (m + 1)) := ⟨_, rfl⟩
 have hVl : V.length = 5 := by rw [hV, carD_len, hv]
 have hs : carD v (4 - m) = V.set (m + 1) (carX V m) := by
  rw [hV, show 4 - m = (4 - (m + 1)) + 1 by omega, carD, show 4 - (4 - (m + 1)) = m + 1 by omega, show 3 - (4 - (m + 1)) = m by omega]
 rw [← hjj]
 rw [← hV] at HK2
 rw [← hjj] at hs
 clear hV
 have h1 : (0 : Int) < jj := by omega
 have h2 : (jj : Int) < 5 := by omega
 have h3 : (jj : Int) - 1 = (m : Int) := by omega
 obtain ⟨h4a, h4b⟩ := i64w (x := (m : Int)) (n := m) rfl (by omega)
 have h5 : (m : Int) < 5 := by omega
 have h6 : (0 : Int) ≤ m := by omega
 have c0 := (HK2.out.rk 1 rfl hVl).cell jj (by omega)
 have c1 := (HK2.out.rk 1 rfl hVl).cell m (by omega)
 have fz := (HK2.out.rk 1 rfl hVl).fz
 have HJ := hDx (And.intro hjj (And.intro hj hs))
 clear hjj hj h0 hs
 go_upto_region 5 with (fail)
 go_still_tail 12, (by kernel_rfl)
 go_wp2_with fail
 go_roundw
 case rel =>
  have e := HJ.out.1
  subst e
  refine ⟨m, by have := HJ.out.2.1; omega, rfl, ?_⟩
  rw [HJ.out.2.2]
  exact (HK2.out.setK 1 rfl (m + 1) (carX V m)).drew
 case measure =>
  have := HJ.out.1
  simp [intOf]; omega
end
section
open Go.RowKit
def runS (s : Nat → List Int → Int) (ix : Nat → Nat) (v : List Int) : Nat → List Int
 | 0 => v
 | k + 1 => (runS s ix v k).set (ix k) (s k (runS s ix v k))
theorem runS_len (s : Nat → List Int → Int) (ix : Nat → Nat) (v : List Int) : ∀ k, (runS s ix v k).length = v.length
 | 0 => rfl
 | k + 1 => by rw [runS, List.length_set, runS_len s ix v k]
def addD (v u : List Int) : Nat → List Int := runS (fun k V => IntKind.u64.wrap (ia V k + ia u k)) id v
def subL (v : List Int) : Nat → List Int := runS (fun k V => IntKind.u64.wrap (ia V (k + 1) + 4503599627370494)) Nat.succ (v.set 0 (IntKind.u64.wrap (ia v 0 + 4503599627370458)))
def subD (v u : List Int) : Nat → List Int := runS (fun k V => IntKind.u64.wrap (ia V k - ia u k)) id (subL v 4)
theorem subL_len (v : List Int) (k : Nat) : (subL v k).length = v.length := (runS_len _ _ _ _).trans (by rw [List.length_set])
theorem subD_len (v u : List Int) (k : Nat) : (subD v u k).length = v.length := (runS_len _ _ _ _).trans (subL_len v 4)
theorem add_run (v u : List Int) (hv : v.length = 5) (hu : u.length = 5) (w : World) : Calls Tryz.prog 108 #[.agg (lk .u64 v), .agg (lk .u64 u)] w fun e w' => e = .returned (.agg (lk .u64 (carF (addD v u 5)))) ∧ Below w.heap.size w w' := by
 go_enter Tryz.func108, Tryz.ntmps108
 have HK0 := hDx (KS.start w)
 go_upto_region 1 with (fail)
 have hm1 := (((HK0.out.made (.cells (lk .u64 v) 141)).made (.cells (lk .u64 u) 141)).made (.cells #[.int .u64 0, .int .u64 0, .int .u64 0, .int .u64 0, .int .u64 0] 141))
 try rw [show ((World.alloc (World.alloc w (.cells (lk .u64 v) 141)) (.cells (lk .u64 u) 141))).heap.size = w.heap.size + 2 by simp] at hm1
 try rw [show ((World.alloc w (.cells (lk .u64 v) 141))).heap.size = w.heap.size + 1 by simp] at hm1
 obtain ⟨R, hgR⟩ := nm (w.heap.size + 2)
 obtain ⟨B, hgB⟩ := nm (w.heap.size + 1)
 obtain ⟨A, hgA⟩ := nm w.heap.size
 obtain ⟨ww1, hv1⟩ := nm (World.alloc (World.alloc (World.alloc w (.cells (lk .u64 v) 141)) (.cells (lk .u64 u) 141)) (.cells #[.int .u64 0, .int .u64 0, .int .u64 0, .int .u64 0, .int .u64 0] 141))
 rw [← hv1, ← hgR, ← hgB, ← hgA] at hm1
 rw [← hv1]
 try rw [← hgR]
 try rw [← hgB]
 try rw [← hgA]
 have HK1 : Hid (KS [(R, .cells (lk .u64 (zi 5)) 141), (B, .cells (lk .u64 u) 141), (A, .cells (lk .u64 v) 141)] [] w ww1) := hDx hm1
 clear hm1 hv1 hgA hgB hgR
 go_upto_region 2 with (fail)
 go_loopw [6] (fun vS wr => ∃ k : Nat, k ≤ 5 ∧ vS = .int .i64 (k : Int) ∧ KS [(R, .cells (lk .u64 (zi 5)) 141), (B, .cells (lk .u64 u) 141), (A, .cells (lk .u64 (addD v u k)) 141)] [] w wr) (fun vS _ => 5 - (intOf vS).toNat)
 case atStart => exact ⟨0, Nat.zero_le _, rfl, HK1.out⟩
 obtain ⟨k, hk, rfl, HK⟩ := hrel
 have HK2 := hDx HK
 clear HK
 by_cases hlt : k < 5
 ·have hk1 : (0 : Int) ≤ k := by omega
  have hk2 : (k : Int) < 5 := by omega
  obtain ⟨hk3, hk4⟩ := i64w (x := (k : Int) + 1) (n := k + 1) (by omega) (by omega)
  have hs : addD v u (k + 1) = (addD v u k).set k (IntKind.u64.wrap (ia (addD v u k) k + ia u k)) := rfl
  have hl : (addD v u k).length = 5 := ((runS_len _ _ _ _).trans hv)
  obtain ⟨V, hV⟩ := nm (addD v u k)
  rw [← hV] at HK2 hl hs
  have c0 := (HK2.out.rk 2 rfl hl).cell k hlt
  have c1 := (HK2.out.rk 1 rfl hu).cell k hlt
  have fz := (HK2.out.rk 2 rfl hl).fz
  have HJ := hDx hs
  clear hV hs hl
  go_upto_region 4 with (fail)
  go_still_tail 7, (by kernel_rfl)
  go_wp2_with fail
  go_roundw
  case rel =>
   exact ⟨k + 1, by omega, by first | rfl | go_num, by rw [HJ.out]; exact (HK2.out.setK 2 rfl k _).drew⟩
  first | exact measI _ _ hlt | (simp [intOf]; omega)
 obtain rfl : k = 5 := by omega
 try simp only [Int.cast_ofNat_Int]
 have FA := (HK2.out.rk 2 rfl ((runS_len _ _ _ _).trans hv))
 go_wp2_with (refine wpList_load_rk rfl _ rfl rfl FA ty141 ?_)
 refine (carried_any (addD v u 5) ((runS_len _ _ _ _).trans hv) _).mono ?_
 rintro e ww3 ⟨rfl, B1⟩
 simp only []
 have HK3 := hDx (HK2.out.call B1)
 clear B1
 have FR := (HK3.out.rk 0 rfl (zi_len 5))
 go_wp2_with (refine wpList_store_rk rfl _ _ rfl rfl rfl FR ty141 ((carF_len _).trans ((runS_len _ _ _ _).trans hv)) ?_)
 have KE := HK3.out.setRow 0 rfl (lk .u64 (carF (addD v u 5)))
 try simp only [Exit.inBlock, Exit.then]
 refine bodyPost_ret (results_rk (p := 4) (by kernel_rfl) (by rfl) (KE.rk 0 rfl ((carF_len _).trans ((runS_len _ _ _ _).trans hv))) ty141) rfl ?_
 exact ⟨rfl, KE.below⟩
theorem sub_run (v u : List Int) (hv : v.length = 5) (hu : u.length = 5) (w : World) : Calls Tryz.prog 109 #[.agg (lk .u64 v), .agg (lk .u64 u)] w fun e w' => e = .returned (.agg (lk .u64 (carF (subD v u 5)))) ∧ Below w.heap.size w w' := by
 go_enter Tryz.func109, Tryz.ntmps109
 have HK0 := hDx (KS.start w)
 go_upto_region 1 with (fail)
 have hm1 := (((HK0.out.made (.cells (lk .u64 v) 141)).made (.cells (lk .u64 u) 141)).made (.cells #[.int .u64 0, .int .u64 0, .int .u64 0, .int .u64 0, .int .u64 0] 141))
 try rw [show ((World.alloc (World.alloc w (.cells (lk .u64 v) 141)) (.cells (lk .u64 u) 141))).heap.size = w.heap.size + 2 by simp] at hm1
 try rw [show ((World.alloc w (.cells (lk .u64 v) 141))).heap.size = w.heap.size + 1 by simp] at hm1
 obtain ⟨R, hgR⟩ := nm (w.heap.size + 2)
 obtain ⟨B, hgB⟩ := nm (w.heap.size + 1)
 obtain ⟨A, hgA⟩ := nm w.heap.size
 obtain ⟨ww1, hv1⟩ := nm (World.alloc (World.alloc (World.alloc w (.cells (lk .u64 v) 141)) (.cells (lk .u64 u) 141)) (.cells #[.int .u64 0, .int .u64 0, .int .u64 0, .int .u64 0, .int .u64 0] 141))
 rw [← hv1, ← hgR, ← hgB, ← hgA] at hm1
 rw [← hv1]
 try rw [← hgR]
 try rw [← hgB]
 try rw [← hgA]
 have HK1 : Hid (KS [(R, .cells (lk .u64 (zi 5)) 141), (B, .cells (lk .u64 u) 141), (A, .cells (lk .u64 v) 141)] [] w ww1) := hDx hm1
 clear hm1 hv1 hgA hgB hgR
 have c0 := (HK1.out.rk 2 rfl hv).cell 0 (by decide)
 have fz := (HK1.out.rk 2 rfl hv).fz
 go_upto_region 2 with (fail)
 obtain ⟨ww2, hv2⟩ := nm (World.setCell ww1 ⟨A, 0, none⟩ (.int .u64 (IntKind.u64.wrap (ia v 0 + 4503599627370458))))
 have HK2 : Hid (KS [(R, .cells (lk .u64 (zi 5)) 141), (B, .cells (lk .u64 u) 141), (A, .cells (lk .u64 (v.set 0 (IntKind.u64.wrap (ia v 0 + 4503599627370458)))) 141)] [] w ww2) := by rw [hv2]; exact hDx (HK1.out.setK 2 rfl 0 (IntKind.u64.wrap (ia v 0 + 4503599627370458)))
 rw [← hv2]
 clear hv2
 clear c0 fz
 go_upto_region 3 with (fail)
 go_loopw [11] (fun vS wr => ∃ k : Nat, k ≤ 4 ∧ vS = .int .i64 (k : Int) ∧ KS [(R, .cells (lk .u64 (zi 5)) 141), (B, .cells (lk .u64 u) 141), (A, .cells (lk .u64 (subL v k)) 141)] [] w wr) (fun vS _ => 4 - (intOf vS).toNat)
 case atStart => exact ⟨0, Nat.zero_le _, rfl, HK2.out⟩
 case round =>
  obtain ⟨k, hk, rfl, HK⟩ := hrel
  have HK3 := hDx HK
  clear HK
  by_cases hlt : k < 4
  ·have hk1 : (0 : Int) ≤ k := by omega
   have hk2 : (k : Int) < 4 := by omega
   obtain ⟨hk3, hk4⟩ := i64w (x := (k : Int) + 1) (n := k + 1) (by omega) (by omega)
   have hs : subL v (k + 1) = (subL v k).set (k + 1) (IntKind.u64.wrap (ia (subL v k) (k + 1) + 4503599627370494)) := rfl
   have hl : (subL v k).length = 5 := (subL_len v k).trans hv
   obtain ⟨V, hV⟩ := nm (subL v k)
   rw [← hV] at HK3 hl hs
   obtain ⟨m, hm⟩ : ∃ m, m = k + 1 := ⟨_, rfl⟩
   rw [← hm] at hs hk3 hk4
   have c0 := (HK3.out.rk 2 rfl hl).cell m (by omega)
   have fz := (HK3.out.rk 2 rfl hl).fz
   have hm1 : (0 : Int) ≤ m := by omega
   have hm2 : (m : Int) < 5 := by omega
   have HJ := hDx (And.intro hm hs)
   clear hV hs hl hm
   go_wp2_with fail
   go_roundw
   case rel =>
    exact ⟨k + 1, by omega, by rw [HJ.out.1], by rw [← HJ.out.1, HJ.out.2]; exact (HK3.out.setK 2 rfl m _)⟩
   have := HJ.out.1; simp [intOf]; omega
  obtain rfl : k = 4 := by omega
  try simp only [Int.cast_ofNat_Int]
  go_upto_region 8 with (fail)
  go_loopw [21] (fun vS wq => ∃ l : Nat, l ≤ 5 ∧ vS = .int .i64 (l : Int) ∧ KS [(R, .cells (lk .u64 (zi 5)) 141), (B, .cells (lk .u64 u) 141), (A, .cells (lk .u64 (subD v u l)) 141)] [] w wq) (fun vS _ => 5 - (intOf vS).toNat)
  case atStart => exact ⟨0, Nat.zero_le _, rfl, HK3.out⟩
  obtain ⟨l, hl, rfl, HK⟩ := hrel
  have HK4 := hDx HK
  clear HK
  by_cases hlt : l < 5
  ·have hl1 : (0 : Int) ≤ l := by omega
   have hl2 : (l : Int) < 5 := by omega
   obtain ⟨hl3, hl4⟩ := i64w (x := (l : Int) + 1) (n := l + 1) (by omega) (by omega)
   have hs : subD v u (l + 1) = (subD v u l).set l (IntKind.u64.wrap (ia (subD v u l) l - ia u l)) := rfl
   have hl : (subD v u l).length = 5 := (subD_len v u l).trans hv
   obtain ⟨V, hV⟩ := nm (subD v u l)
   rw [← hV] at HK4 hl hs
   have c0 := (HK4.out.rk 2 rfl hl).cell l hlt
   have c1 := (HK4.out.rk 1 rfl hu).cell l hlt
   have fz := (HK4.out.rk 2 rfl hl).fz
   have HJ := hDx hs
   clear hV hs hl
   go_upto_region 10 with (fail)
   go_still_tail 7, (by kernel_rfl)
   go_wp2_with fail
   go_roundw
   case rel =>
    exact ⟨l + 1, by omega, by first | rfl | go_num, by rw [HJ.out]; exact (HK4.out.setK 2 rfl l _).drew⟩
   first | exact measI _ _ hlt | (simp [intOf]; omega)
  obtain rfl : l = 5 := by omega
  try simp only [Int.cast_ofNat_Int]
  have FA := (HK4.out.rk 2 rfl ((subD_len v u 5).trans hv))
  go_wp2_with (refine wpList_load_rk rfl _ rfl rfl FA ty141 ?_)
  refine (carried_any (subD v u 5) ((subD_len v u 5).trans hv) _).mono ?_
  rintro e ww5 ⟨rfl, B1⟩
  simp only []
  have HK5 := hDx (HK4.out.call B1)
  clear B1
  have FR := (HK5.out.rk 0 rfl (zi_len 5))
  go_wp2_with (refine wpList_store_rk rfl _ _ rfl rfl rfl FR ty141 ((carF_len _).trans ((subD_len v u 5).trans hv)) ?_)
  have KE := HK5.out.setRow 0 rfl (lk .u64 (carF (subD v u 5)))
  try simp only [Exit.inBlock, Exit.then]
  refine bodyPost_ret (results_rk (p := 4) (by kernel_rfl) (by rfl) (KE.rk 0 rfl ((carF_len _).trans ((subD_len v u 5).trans hv))) ty141) rfl ?_
  exact ⟨rfl, KE.below⟩
end
end Go.Proofs.YtoplbfijodebmaaGreatDoor
