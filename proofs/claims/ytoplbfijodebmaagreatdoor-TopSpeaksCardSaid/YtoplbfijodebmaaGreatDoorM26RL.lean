/-
  The walk.
-/
import Derived.Test.YtoplbfijodebmaaGreatDoorM25RG
import Derived.Test.YtoplbfijodebmaaGreatDoorM23Mont
set_option linter.unusedVariables false
set_option linter.unusedSimpArgs false
set_option maxRecDepth 100000
set_option maxHeartbeats 40000000
namespace Go.Proofs.YtoplbfijodebmaaGreatDoor
section
open Go.RowKit T
theorem radd_l (X Y : F) (w : World) : Calls Tryz.prog 55 #[.agg (lk .u64 (nL X)), .agg (lk .u64 (nL Y))] w fun e w' => e = .returned (.agg (lk .u64 (nL (X + Y)))) ∧ Below w.heap.size w w' := radd_any X Y w
theorem rsub_l (X Y : F) (w : World) : Calls Tryz.prog 57 #[.agg (lk .u64 (nL X)), .agg (lk .u64 (nL Y))] w fun e w' => e = .returned (.agg (lk .u64 (nL (X - Y)))) ∧ Below w.heap.size w w' := rsub_any X Y w
theorem rinv_l (X : F) (w : World) : Calls Tryz.prog 58 #[.agg (lk .u64 (nL X))] w fun e w' => e = .returned (.agg (lk .u64 (nL (T.iv X)))) ∧ Below w.heap.size w w' := rinv_any X w
theorem rbytes_l (X : F) (w : World) : Calls Tryz.prog 59 #[.agg (lk .u64 (nL X))] w fun e w' => e = .returned (.string (leS X.val 32)) ∧ Below w.heap.size w w' := rbytes_any X w
theorem rof_l (s : ByteArray) (hs : s.size = 32) (w : World) : Calls Tryz.prog 53 #[.string s] w fun e w' => e = .returned (.agg (lk .u64 (nL (fe (leN s 32))))) ∧ Below w.heap.size w w' := rof_any s hs w
theorem rone_l (w : World) : Calls Tryz.prog 54 #[.int .u32 1] w fun e w' => e = .returned (.agg (lk .u64 (nL 1))) ∧ Below w.heap.size w w' := rsmall1 w
theorem r121_l (w : World) : Calls Tryz.prog 54 #[.int .u32 121665] w fun e w' => e = .returned (.agg (lk .u64 (nL 121665))) ∧ Below w.heap.size w w' := rsmall_any 121665 (by decide) w
theorem nL_zero : lk .u64 (nL 0) = #[.int .u64 0, .int .u64 0, .int .u64 0, .int .u64 0, .int .u64 0, .int .u64 0, .int .u64 0, .int .u64 0, .int .u64 0, .int .u64 0, .int .u64 0, .int .u64 0, .int .u64 0, .int .u64 0, .int .u64 0, .int .u64 0] := by
 rw [← zeros16]
 refine congrArg (lk .u64) ?_
 unfold nL
 exact rw_ext fun j _ => by
  show lim 65536 0 j = 0
  unfold lim
  simp
theorem extN (X : F) : (lk .u64 (nL X)).extract 0 (0 + 16) = lk .u64 (nL X) := extR _
theorem szN (X : F) : (lk .u64 (nL X)).size = 16 := by rw [lk_size]; exact nL_len X
theorem runL_t (U : F) (K m : Nat) (s : St P) (h : K / 2 ^ m % 2 = 1) : runL U K (m + 1) s = runL U K m (stepL U true s) := runL_bit U K m s true h
theorem runL_f (U : F) (K m : Nat) (s : St P) (h : K / 2 ^ m % 2 = 0) : runL U K (m + 1) s = runL U K m (stepL U false s) := runL_bit U K m s false h
theorem rladder_any (s u : ByteArray) (hs : s.size = 32) (hu : u.size = 32) (w : World) : Calls Tryz.prog 32 #[.string s, .string u] w fun e w' => e = .returned (.string (ladS s u)) ∧ Below w.heap.size w w' := by
 obtain ⟨K, hK⟩ := nm (leN (clampS s) 32)
 obtain ⟨U, hU⟩ := nm (fe (leN (u127 u) 32))
 have hL : ladS s u = leS (lad K U).val 32 := by rw [hK, hU]; rfl
 obtain ⟨kk, hkk⟩ := nm (clampS s)
 have hks : kk.size = 32 := by rw [hkk, clampS_size, hs]
 rw [← hkk] at hK
 have hl : (bl u).length = 32 := (bl_len u).trans hu
 have HL := hDx (And.intro hL (And.intro hK (And.intro hU (And.intro hks hu))))
 have hus : (u.size : Int) = 32 := by omega
 have hcl := fun w => rclamp_any s hs w
 rw [← hkk] at hcl
 rw [hL]
 clear hL hK hU hks hkk hs hu
 go_enter Tryz.func32, Tryz.ntmps32
 have HK0 := hDx (KS.start w)
 go_wp2_with fail
 refine (hcl _).mono ?_
 rintro e ww1 ⟨rfl, B1⟩
 simp only []
 have HK1 := hDx (HK0.out.call B1)
 clear B1
 clear hcl
 go_upto_region 2 with fail
 obtain ⟨zz, cap, hcv⟩ := run_bytes u ww1
 rw [HL.out.2.2.2.2] at hcv
 go_upto_region 3 with fail
 have hm2 := (HK1.out.made (bob (bl u) zz)).drew
 obtain ⟨BB, hgBB⟩ := nm ww1.heap.size
 obtain ⟨ww2, hv2⟩ := nm (World.drew (World.alloc ww1 (bob (bl u) zz)))
 rw [← hv2, ← hgBB] at hm2
 rw [← hv2]
 try rw [← hgBB]
 have HK2 : Hid (KS [(BB, bob (bl u) zz)] [] w ww2) := hDx hm2
 clear hm2 hv2 hgBB
 clear hcv
 have c0 := HK2.out.bcell 0 rfl 31 (by omega)
 have z0 := HK2.out.bfz 0 rfl 31 (by omega)
 go_upto_region 4 with fail
 obtain ⟨ww3, hv3⟩ := nm (World.setCell ww2 ⟨BB, 31, none⟩ (.int .u8 (bits .and .u8 (ia (bl u) 31) 127)))
 have HK3 : Hid (KS [(BB, bob ((bl u).set 31 (bits .and .u8 (ia (bl u) 31) 127)) zz)] [] w ww3) := by rw [hv3]; exact hDx (HK2.out.bset 0 rfl 31 (by omega) (bits .and .u8 (ia (bl u) 31) 127))
 rw [← hv3]
 clear hv3
 clear c0 z0
 have hcv := HK3.out.bconv 0 rfl ((List.length_set ..).trans hl) cap
 rw [show strOfNums ((bl u).set 31 (bits .and .u8 (ia (bl u) 31) 127)) = u127 u from rfl] at hcv
 go_wp2_with fail
 refine (rof_l (u127 u) ((u127_size u).trans HL.out.2.2.2.2) _).mono ?_
 rintro e ww4 ⟨rfl, B1⟩
 simp only []
 have HK4 := hDx (HK3.out.call B1)
 clear B1
 rw [← HL.out.2.2.1]
 clear hcv
 have FH5 := rk_new ww4 109 16 .u64 (zi 16) (zi_len 16)
 go_upto_region 5 with (refine wpList_store_rk rfl _ _ rfl rfl rfl FH5 ty109 (nL_len _) ?_)
 have hm5 := (HK4.out.made (.cells ZRu64x16 109)).setRow 0 rfl (lk .u64 (nL (U)))
 obtain ⟨X1, hgX1⟩ := nm ww4.heap.size
 obtain ⟨ww5, hv5⟩ := nm (World.setRow (World.alloc ww4 (.cells ZRu64x16 109)) ww4.heap.size (lk .u64 (nL (U))))
 rw [← hv5, ← hgX1] at hm5
 rw [← hv5]
 try rw [← hgX1]
 have HK5 : Hid (KS [(X1, .cells (lk .u64 (nL (U))) 109), (BB, bob ((bl u).set 31 (bits .and .u8 (ia (bl u) 31) 127)) zz)] [] w ww5) := hDx hm5
 clear hm5 hv5 hgX1
 go_wp2_with fail
 refine (rone_l _).mono ?_
 rintro e ww6 ⟨rfl, B1⟩
 simp only []
 have HK6 := hDx (HK5.out.call B1)
 clear B1
 have FH7 := rk_new ww6 109 16 .u64 (zi 16) (zi_len 16)
 go_upto_region 6 with (refine wpList_store_rk rfl _ _ rfl rfl rfl FH7 ty109 (nL_len _) ?_)
 have hm7 := (HK6.out.made (.cells ZRu64x16 109)).setRow 0 rfl (lk .u64 (nL (1)))
 obtain ⟨X2, hgX2⟩ := nm ww6.heap.size
 obtain ⟨ww7, hv7⟩ := nm (World.setRow (World.alloc ww6 (.cells ZRu64x16 109)) ww6.heap.size (lk .u64 (nL (1))))
 rw [← hv7, ← hgX2] at hm7
 rw [← hv7]
 try rw [← hgX2]
 have HK7 : Hid (KS [(X2, .cells (lk .u64 (nL (1))) 109), (X1, .cells (lk .u64 (nL (U))) 109), (BB, bob ((bl u).set 31 (bits .and .u8 (ia (bl u) 31) 127)) zz)] [] w ww7) := hDx hm7
 clear hm7 hv7 hgX2
 go_upto_region 7 with fail
 have hm8 := (HK7.out.made (.cells ZRu64x16 109))
 obtain ⟨Z2, hgZ2⟩ := nm ww7.heap.size
 obtain ⟨ww8, hv8⟩ := nm (World.alloc ww7 (.cells ZRu64x16 109))
 rw [← hv8, ← hgZ2] at hm8
 rw [← hv8]
 try rw [← hgZ2]
 have HK8 : Hid (KS [(Z2, .cells ZRu64x16 109), (X2, .cells (lk .u64 (nL (1))) 109), (X1, .cells (lk .u64 (nL (U))) 109), (BB, bob ((bl u).set 31 (bits .and .u8 (ia (bl u) 31) 127)) zz)] [] w ww8) := hDx hm8
 clear hm8 hv8 hgZ2
 have HKC := HK8.out.swap (L' := [(Z2, .cells (lk .u64 (nL (0))) 109), (X2, .cells (lk .u64 (nL (1))) 109), (X1, .cells (lk .u64 (nL (U))) 109), (BB, bob ((bl u).set 31 (bits .and .u8 (ia (bl u) 31) 127)) zz)]) (by rw [nL_zero])
 replace HK8 := hDx HKC
 clear HKC
 go_upto_region 7 with fail
 have FX1 := (HK8.out.rk 2 rfl (nL_len _))
 have FH9 := rk_new ww8 109 16 .u64 (zi 16) (zi_len 16)
 go_upto_region 8 with (first | (first | (with_reducible show wpList _ _ _ _ _ _; refine wpList_load_rk (b := X1) rfl _ rfl rfl FX1 ty109 ?_)) | (refine wpList_store_rk rfl _ _ rfl rfl rfl FH9 ty109 (nL_len _) ?_))
 have hm9 := (HK8.out.made (.cells ZRu64x16 109)).setRow 0 rfl (lk .u64 (nL (U)))
 obtain ⟨X3, hgX3⟩ := nm ww8.heap.size
 obtain ⟨ww9, hv9⟩ := nm (World.setRow (World.alloc ww8 (.cells ZRu64x16 109)) ww8.heap.size (lk .u64 (nL (U))))
 rw [← hv9, ← hgX3] at hm9
 rw [← hv9]
 try rw [← hgX3]
 have HK9 : Hid (KS [(X3, .cells (lk .u64 (nL (U))) 109), (Z2, .cells (lk .u64 (nL (0))) 109), (X2, .cells (lk .u64 (nL (1))) 109), (X1, .cells (lk .u64 (nL (U))) 109), (BB, bob ((bl u).set 31 (bits .and .u8 (ia (bl u) 31) 127)) zz)] [] w ww9) := hDx hm9
 clear hm9 hv9 hgX3
 clear FX1
 go_wp2_with fail
 refine (rone_l _).mono ?_
 rintro e ww10 ⟨rfl, B1⟩
 simp only []
 have HK10 := hDx (HK9.out.call B1)
 clear B1
 have FH11 := rk_new ww10 109 16 .u64 (zi 16) (zi_len 16)
 go_upto_region 9 with (refine wpList_store_rk rfl _ _ rfl rfl rfl FH11 ty109 (nL_len _) ?_)
 have hm11 := (HK10.out.made (.cells ZRu64x16 109)).setRow 0 rfl (lk .u64 (nL (1)))
 obtain ⟨Z3, hgZ3⟩ := nm ww10.heap.size
 obtain ⟨ww11, hv11⟩ := nm (World.setRow (World.alloc ww10 (.cells ZRu64x16 109)) ww10.heap.size (lk .u64 (nL (1))))
 rw [← hv11, ← hgZ3] at hm11
 rw [← hv11]
 try rw [← hgZ3]
 have HK11 : Hid (KS [(Z3, .cells (lk .u64 (nL (1))) 109), (X3, .cells (lk .u64 (nL (U))) 109), (Z2, .cells (lk .u64 (nL (0))) 109), (X2, .cells (lk .u64 (nL (1))) 109), (X1, .cells (lk .u64 (nL (U))) 109), (BB, bob ((bl u).set 31 (bits .and .u8 (ia (bl u) 31) 127)) zz)] [] w ww11) := hDx hm11
 clear hm11 hv11 hgZ3
 go_upto_region 10 with fail
 go_loopw [12] (fun vS wr => ∃ (j : Nat) (S : St P), j ≤ 255 ∧ vS = .int .i64 ((j : Int) - 1) ∧ runL U K j S = runL U K 255 ⟨1, 0, U, 1⟩ ∧ KS [(Z3, .cells (lk .u64 (nL (S.z1))) 109), (X3, .cells (lk .u64 (nL (S.x1))) 109), (Z2, .cells (lk .u64 (nL (S.z0))) 109), (X2, .cells (lk .u64 (nL (S.x0))) 109), (X1, .cells (lk .u64 (nL (U))) 109), (BB, bob ((bl u).set 31 (bits .and .u8 (ia (bl u) 31) 127)) zz)] [] w wr) (fun vS _ => ((intOf vS) + 1).toNat)
 case atStart => exact ⟨255, ⟨1, 0, U, 1⟩, Nat.le_refl _, rfl, rfl, HK11.out⟩
 obtain ⟨j, S, hj, rfl, hS, HK⟩ := hrel
 have HK12 := hDx HK
 clear HK
 replace hS := hDx hS
 obtain ⟨a0, b0, a1, b1⟩ := S
 simp only [] at HK12
 rcases j with _ | m
 replace HK12 : Hid (KS [(Z3, .cells (lk .u64 (nL (b1))) 109), (X3, .cells (lk .u64 (nL (a1))) 109), (Z2, .cells (lk .u64 (nL (b0))) 109), (X2, .cells (lk .u64 (nL (a0))) 109), (X1, .cells (lk .u64 (nL (U))) 109), (BB, bob ((bl u).set 31 (bits .and .u8 (ia (bl u) 31) 127)) zz)] [] w wr) := HK12
 ·rw [show ((0 : Nat) : Int) - 1 = -1 from rfl]
  clear hj
  go_upto_region 32 with fail
  try simp only [Act.put, sAx, s0x, s1x]
  refine wp_region_cv 5 [113, 114, 115, 116, 117] [[], [], [114], [113, 115], [116]] [(113, .agg (lk .u64 (nL (a0)))), (114, .agg (lk .u64 (nL (b0)))), (115, .agg (lk .u64 (nL (T.iv b0)))), (116, .agg (lk .u64 (nL (a0 * T.iv b0)))), (117, .string (leS (a0 * T.iv b0).val 32))] rfl (by kernel_rfl) (by kernel_rfl) (by rfl) (by kernel_rfl) ?hO1 ?hE1
  case hO1 =>
   refine ⟨?_, ?_, ?_, ?_, ?_, trivial⟩
   ·intro act u HB HO HA
    have e8 : act.eval (.tmp 8) = .pointer (some ⟨X2, 0, none⟩) := HO 8 (by decide)
    have HS := HK12.out.drew.call HB
    exact calm_lM 113 8 e8 (HS.get 3 rfl) ag109 (extN _) (szN _) rfl rfl rfl rfl
   ·intro act u HB HO HA
    have e9 : act.eval (.tmp 9) = .pointer (some ⟨Z2, 0, none⟩) := HO 9 (by decide)
    have HS := HK12.out.drew.call HB
    exact calm_lM 114 9 e9 (HS.get 2 rfl) ag109 (extN _) (szN _) rfl rfl rfl rfl
   ·intro act u HB HO HA
    have e114 : _ = _ := qA HA 114
    refine calm_call 115 #[.agg (lk .u64 (nL (b0)))] rfl rfl ?_ (by kernel_rfl) (rinv_l b0 u) ?_ rfl
    ·simp only [mTx, mCx, mNx, e114]
     try rfl
    rintro e u1 ⟨rfl, B1⟩
    exact ⟨_, rfl, rfl, B1⟩
   ·intro act u HB HO HA
    have e113 : _ = _ := qA HA 113
    have e115 : _ = _ := qA HA 115
    refine calm_call 116 #[.agg (lk .u64 (nL (a0))), .agg (lk .u64 (nL (T.iv b0)))] rfl rfl ?_ (by kernel_rfl) (rmul_l a0 (T.iv b0) u) ?_ rfl
    ·simp only [mTx, mCx, mNx, e113, e115]
     try rfl
    rintro e u1 ⟨rfl, B1⟩
    exact ⟨_, rfl, rfl, B1⟩
   intro act u HB HO HA
   have e116 : _ = _ := qA HA 116
   refine calm_call 117 #[.agg (lk .u64 (nL (a0 * T.iv b0)))] rfl rfl ?_ (by kernel_rfl) (rbytes_l (a0 * T.iv b0) u) ?_ rfl
   ·simp only [mTx, mCx, mNx, e116]
    try rfl
   rintro e u1 ⟨rfl, B1⟩
   exact ⟨_, rfl, rfl, B1⟩
  intro ww13 HB
  have HK13 := hDx (HK12.out.drew.call HB)
  simp only [fillL, Act.put, sAx, s0x, s1x, dSx, d0x]
  clear HB
  have e : a0 * T.iv b0 = lad K U := by
   have h := hS.out
   rw [runL] at h
   unfold lad
   rw [← h]
  rw [e]
  go_wp2_with fail
  go_ret
  exact ⟨rfl, HK13.out.below⟩
 rw [im1 m]
 obtain ⟨hm255, hm0, hm1, hm2⟩ := pre254 m hj
 obtain ⟨q, rr, Z, q1, r1, r4, hq32, hZ, hbit⟩ := bit_i kk HL.out.2.2.2.1 m hm255
 rw [← HL.out.2.1] at hbit
 have hix := fun u => idxS (s := kk) (k := q) (by rw [HL.out.2.2.2.1]; exact hq32) u
 have hj2 := hDx (show m ≤ 255 from Nat.le_of_lt hm255)
 clear hm255 hj hq32
 rcases hbit with ⟨hk, hbit⟩ | ⟨hk, hbit⟩
 ·go_upto_region 16 with (first | (with_reducible show Oper.wp _ _ _ _ _ _; refine wp_bin q1 rfl rfl rfl ?_) | (with_reducible show Oper.wp _ _ _ _ _ _; refine wp_bin r1 rfl rfl rfl ?_) | (with_reducible show Oper.wp _ _ _ _ _ _; refine wp_shift hZ (Or.inl rfl) rfl rfl rfl ?_))
  clear q1 r1 r4 hZ hix hbit
  obtain ⟨va, ea⟩ := nm (a0 + b0)
  obtain ⟨vaa, eaa⟩ := nm (va * va)
  obtain ⟨vd, ed⟩ := nm (a0 - b0)
  obtain ⟨vdd, edd⟩ := nm (vd * vd)
  obtain ⟨ve, ee⟩ := nm (vaa - vdd)
  obtain ⟨vda, eda⟩ := nm ((a1 - b1) * va)
  obtain ⟨vcb, ecb⟩ := nm ((a1 + b1) * vd)
  obtain ⟨vS2, es⟩ := nm (vda + vcb)
  obtain ⟨vt, et⟩ := nm (vda - vcb)
  obtain ⟨n2, e2⟩ := nm (vaa * vdd)
  obtain ⟨m2, f2⟩ : ∃ y, y = ve * (vaa + 121665 * ve) := ⟨_, rfl⟩
  obtain ⟨n3, e3⟩ := nm (vS2 * vS2)
  obtain ⟨m3, f3⟩ := nm (U * (vt * vt))
  replace ea := hDx ea
  replace eaa := hDx eaa
  replace ed := hDx ed
  replace edd := hDx edd
  replace ee := hDx ee
  replace eda := hDx eda
  replace ecb := hDx ecb
  replace es := hDx es
  replace et := hDx et
  replace e2 := hDx e2
  replace f2 := hDx f2
  replace e3 := hDx e3
  replace f3 := hDx f3
  have FX2 := (HK12.out.rk 3 rfl (nL_len _))
  have FZ2 := (HK12.out.rk 2 rfl (nL_len _))
  go_wp2_with (first | (with_reducible show wpList _ _ _ _ _ _; refine wpList_load_rk (b := X2) rfl _ rfl rfl FX2 ty109 ?_) | (with_reducible show wpList _ _ _ _ _ _; refine wpList_load_rk (b := Z2) rfl _ rfl rfl FZ2 ty109 ?_))
  refine (radd_l (a0) (b0) _).mono ?_
  rintro e ww13 ⟨rfl, B1⟩
  simp only []
  have HK13 := hDx (HK12.out.call B1)
  clear B1
  clear FX2 FZ2
  rw [← ea.out]
  have FH14 := rk_new ww13 109 16 .u64 (zi 16) (zi_len 16)
  go_upto_region 17 with (refine wpList_store_rk rfl _ _ rfl rfl rfl FH14 ty109 (nL_len _) ?_)
  have hm14 := (HK13.out.made (.cells ZRu64x16 109)).setRow 0 rfl (lk .u64 (nL (va)))
  obtain ⟨BA, hgBA⟩ := nm ww13.heap.size
  obtain ⟨ww14, hv14⟩ := nm (World.setRow (World.alloc ww13 (.cells ZRu64x16 109)) ww13.heap.size (lk .u64 (nL (va))))
  rw [← hv14, ← hgBA] at hm14
  rw [← hv14]
  try rw [← hgBA]
  have HK14 : Hid (KS [(BA, .cells (lk .u64 (nL (va))) 109), (Z3, .cells (lk .u64 (nL (b1))) 109), (X3, .cells (lk .u64 (nL (a1))) 109), (Z2, .cells (lk .u64 (nL (b0))) 109), (X2, .cells (lk .u64 (nL (a0))) 109), (X1, .cells (lk .u64 (nL (U))) 109), (BB, bob ((bl u).set 31 (bits .and .u8 (ia (bl u) 31) 127)) zz)] [] w ww14) := hDx hm14
  clear hm14 hv14 hgBA
  have FBA := (HK14.out.rk 0 rfl (nL_len _))
  go_wp2_with (first | (with_reducible show wpList _ _ _ _ _ _; refine wpList_load_rk (b := BA) rfl _ rfl rfl FBA ty109 ?_))
  refine (rmul_l (va) (va) _).mono ?_
  rintro e ww15 ⟨rfl, B1⟩
  simp only []
  have HK15 := hDx (HK14.out.call B1)
  clear B1
  clear FBA
  rw [← eaa.out]
  have FH16 := rk_new ww15 109 16 .u64 (zi 16) (zi_len 16)
  go_upto_region 18 with (refine wpList_store_rk rfl _ _ rfl rfl rfl FH16 ty109 (nL_len _) ?_)
  have hm16 := (HK15.out.made (.cells ZRu64x16 109)).setRow 0 rfl (lk .u64 (nL (vaa)))
  obtain ⟨BAA, hgBAA⟩ := nm ww15.heap.size
  obtain ⟨ww16, hv16⟩ := nm (World.setRow (World.alloc ww15 (.cells ZRu64x16 109)) ww15.heap.size (lk .u64 (nL (vaa))))
  rw [← hv16, ← hgBAA] at hm16
  rw [← hv16]
  try rw [← hgBAA]
  have HK16 : Hid (KS [(BAA, .cells (lk .u64 (nL (vaa))) 109), (BA, .cells (lk .u64 (nL (va))) 109), (Z3, .cells (lk .u64 (nL (b1))) 109), (X3, .cells (lk .u64 (nL (a1))) 109), (Z2, .cells (lk .u64 (nL (b0))) 109), (X2, .cells (lk .u64 (nL (a0))) 109), (X1, .cells (lk .u64 (nL (U))) 109), (BB, bob ((bl u).set 31 (bits .and .u8 (ia (bl u) 31) 127)) zz)] [] w ww16) := hDx hm16
  clear hm16 hv16 hgBAA
  have FX2 := (HK16.out.rk 5 rfl (nL_len _))
  have FZ2 := (HK16.out.rk 4 rfl (nL_len _))
  go_wp2_with (first | (with_reducible show wpList _ _ _ _ _ _; refine wpList_load_rk (b := X2) rfl _ rfl rfl FX2 ty109 ?_) | (with_reducible show wpList _ _ _ _ _ _; refine wpList_load_rk (b := Z2) rfl _ rfl rfl FZ2 ty109 ?_))
  refine (rsub_l (a0) (b0) _).mono ?_
  rintro e ww17 ⟨rfl, B1⟩
  simp only []
  have HK17 := hDx (HK16.out.call B1)
  clear B1
  clear FX2 FZ2
  rw [← ed.out]
  have FH18 := rk_new ww17 109 16 .u64 (zi 16) (zi_len 16)
  go_upto_region 19 with (refine wpList_store_rk rfl _ _ rfl rfl rfl FH18 ty109 (nL_len _) ?_)
  have hm18 := (HK17.out.made (.cells ZRu64x16 109)).setRow 0 rfl (lk .u64 (nL (vd)))
  obtain ⟨BD, hgBD⟩ := nm ww17.heap.size
  obtain ⟨ww18, hv18⟩ := nm (World.setRow (World.alloc ww17 (.cells ZRu64x16 109)) ww17.heap.size (lk .u64 (nL (vd))))
  rw [← hv18, ← hgBD] at hm18
  rw [← hv18]
  try rw [← hgBD]
  have HK18 : Hid (KS [(BD, .cells (lk .u64 (nL (vd))) 109), (BAA, .cells (lk .u64 (nL (vaa))) 109), (BA, .cells (lk .u64 (nL (va))) 109), (Z3, .cells (lk .u64 (nL (b1))) 109), (X3, .cells (lk .u64 (nL (a1))) 109), (Z2, .cells (lk .u64 (nL (b0))) 109), (X2, .cells (lk .u64 (nL (a0))) 109), (X1, .cells (lk .u64 (nL (U))) 109), (BB, bob ((bl u).set 31 (bits .and .u8 (ia (bl u) 31) 127)) zz)] [] w ww18) := hDx hm18
  clear hm18 hv18 hgBD
  have FBD := (HK18.out.rk 0 rfl (nL_len _))
  go_wp2_with (first | (with_reducible show wpList _ _ _ _ _ _; refine wpList_load_rk (b := BD) rfl _ rfl rfl FBD ty109 ?_))
  refine (rmul_l (vd) (vd) _).mono ?_
  rintro e ww19 ⟨rfl, B1⟩
  simp only []
  have HK19 := hDx (HK18.out.call B1)
  clear B1
  clear FBD
  rw [← edd.out]
  have FH20 := rk_new ww19 109 16 .u64 (zi 16) (zi_len 16)
  go_upto_region 20 with (refine wpList_store_rk rfl _ _ rfl rfl rfl FH20 ty109 (nL_len _) ?_)
  have hm20 := (HK19.out.made (.cells ZRu64x16 109)).setRow 0 rfl (lk .u64 (nL (vdd)))
  obtain ⟨BDD, hgBDD⟩ := nm ww19.heap.size
  obtain ⟨ww20, hv20⟩ := nm (World.setRow (World.alloc ww19 (.cells ZRu64x16 109)) ww19.heap.size (lk .u64 (nL (vdd))))
  rw [← hv20, ← hgBDD] at hm20
  rw [← hv20]
  try rw [← hgBDD]
  have HK20 : Hid (KS [(BDD, .cells (lk .u64 (nL (vdd))) 109), (BD, .cells (lk .u64 (nL (vd))) 109), (BAA, .cells (lk .u64 (nL (vaa))) 109), (BA, .cells (lk .u64 (nL (va))) 109), (Z3, .cells (lk .u64 (nL (b1))) 109), (X3, .cells (lk .u64 (nL (a1))) 109), (Z2, .cells (lk .u64 (nL (b0))) 109), (X2, .cells (lk .u64 (nL (a0))) 109), (X1, .cells (lk .u64 (nL (U))) 109), (BB, bob ((bl u).set 31 (bits .and .u8 (ia (bl u) 31) 127)) zz)] [] w ww20) := hDx hm20
  clear hm20 hv20 hgBDD
  have FBAA := (HK20.out.rk 2 rfl (nL_len _))
  have FBDD := (HK20.out.rk 0 rfl (nL_len _))
  go_wp2_with (first | (with_reducible show wpList _ _ _ _ _ _; refine wpList_load_rk (b := BAA) rfl _ rfl rfl FBAA ty109 ?_) | (with_reducible show wpList _ _ _ _ _ _; refine wpList_load_rk (b := BDD) rfl _ rfl rfl FBDD ty109 ?_))
  refine (rsub_l (vaa) (vdd) _).mono ?_
  rintro e ww21 ⟨rfl, B1⟩
  simp only []
  have HK21 := hDx (HK20.out.call B1)
  clear B1
  clear FBAA FBDD
  rw [← ee.out]
  have FH22 := rk_new ww21 109 16 .u64 (zi 16) (zi_len 16)
  go_upto_region 21 with (refine wpList_store_rk rfl _ _ rfl rfl rfl FH22 ty109 (nL_len _) ?_)
  have hm22 := (HK21.out.made (.cells ZRu64x16 109)).setRow 0 rfl (lk .u64 (nL (ve)))
  obtain ⟨BE, hgBE⟩ := nm ww21.heap.size
  obtain ⟨ww22, hv22⟩ := nm (World.setRow (World.alloc ww21 (.cells ZRu64x16 109)) ww21.heap.size (lk .u64 (nL (ve))))
  rw [← hv22, ← hgBE] at hm22
  rw [← hv22]
  try rw [← hgBE]
  have HK22 : Hid (KS [(BE, .cells (lk .u64 (nL (ve))) 109), (BDD, .cells (lk .u64 (nL (vdd))) 109), (BD, .cells (lk .u64 (nL (vd))) 109), (BAA, .cells (lk .u64 (nL (vaa))) 109), (BA, .cells (lk .u64 (nL (va))) 109), (Z3, .cells (lk .u64 (nL (b1))) 109), (X3, .cells (lk .u64 (nL (a1))) 109), (Z2, .cells (lk .u64 (nL (b0))) 109), (X2, .cells (lk .u64 (nL (a0))) 109), (X1, .cells (lk .u64 (nL (U))) 109), (BB, bob ((bl u).set 31 (bits .and .u8 (ia (bl u) 31) 127)) zz)] [] w ww22) := hDx hm22
  clear hm22 hv22 hgBE
  try simp only [Act.put, sAx, s0x, s1x]
  refine wp_region_calm 6 [74, 75, 76, 77, 78, 19] [19] [[], [], [74, 75], [], [76, 77], []] (Ftab [(74, .val (.agg (lk .u64 (nL (a1))))), (75, .val (.agg (lk .u64 (nL (b1))))), (76, .val (.agg (lk .u64 (nL (a1 - b1))))), (77, .val (.agg (lk .u64 (nL (va))))), (78, .val (.agg (lk .u64 (nL (vda))))), (19, .obj ww22.heap.size (.cells ZRu64x16 109))]) (by kernel_rfl) (by kernel_rfl) (by rfl) (by kernel_rfl) ?hO2 ?hE2
  case hO2 =>
   refine ⟨?_, ?_, ?_, ?_, ?_, ?_, trivial⟩
   ·intro act u HB HO HA
    have e10 : act.eval (.tmp 10) = .pointer (some ⟨X3, 0, none⟩) := HO 10 (by decide)
    have HS := HK22.out.drew.call HB
    exact calm_lM 74 10 e10 (HS.get 6 rfl) ag109 (extN _) (szN _) rfl rfl rfl rfl
   ·intro act u HB HO HA
    have e11 : act.eval (.tmp 11) = .pointer (some ⟨Z3, 0, none⟩) := HO 11 (by decide)
    have HS := HK22.out.drew.call HB
    exact calm_lM 75 11 e11 (HS.get 5 rfl) ag109 (extN _) (szN _) rfl rfl rfl rfl
   ·intro act u HB HO HA
    have e74 : _ = _ := qA HA 74
    have e75 : _ = _ := qA HA 75
    refine calm_call 76 #[.agg (lk .u64 (nL (a1))), .agg (lk .u64 (nL (b1)))] rfl rfl ?_ (by kernel_rfl) (rsub_l a1 b1 u) ?_ rfl
    ·simp only [mTx, mCx, mNx, e74, e75]
     try rfl
    rintro e u1 ⟨rfl, B1⟩
    exact ⟨_, rfl, rfl, B1⟩
   ·intro act u HB HO HA
    have e14 : act.eval (.tmp 14) = .pointer (some ⟨BA, 0, none⟩) := HO 14 (by decide)
    have HS := HK22.out.drew.call HB
    exact calm_lM 77 14 e14 (HS.get 4 rfl) ag109 (extN _) (szN _) rfl rfl rfl rfl
   ·intro act u HB HO HA
    have e76 : _ = _ := qA HA 76
    have e77 : _ = _ := qA HA 77
    refine calm_call 78 #[.agg (lk .u64 (nL (a1 - b1))), .agg (lk .u64 (nL (va)))] rfl rfl ?_ (by kernel_rfl) (rmul_l (a1 - b1) va u) ?_ rfl
    ·simp only [mTx, mCx, mNx, e76, e77]
     try rfl
    rintro e u1 ⟨rfl, B1⟩
    exact ⟨_, rfl, by rw [eda.out]; rfl, B1⟩
   intro act u HB HO HA
   refine calm_new 19 (.cells ZRu64x16 109) rfl ?_ (obj_new _ u _ (Nat.le_trans (by exact Nat.le_refl _) HB.size))
   go_simp
  intro vT ww23 HB HF HN
  have f74 : _ = _ := qA HF 74
  have f75 : _ = _ := qA HF 75
  have f76 : _ = _ := qA HF 76
  have f77 : _ = _ := qA HF 77
  have f78 : _ = _ := qA HF 78
  obtain ⟨BDA, f19, q19, b19⟩ : (Fct.obj ww22.heap.size (.cells #[.int .u64 0, .int .u64 0, .int .u64 0, .int .u64 0, .int .u64 0, .int .u64 0, .int .u64 0, .int .u64 0, .int .u64 0, .int .u64 0, .int .u64 0, .int .u64 0, .int .u64 0, .int .u64 0, .int .u64 0, .int .u64 0] 109)).p (vT 19) ww23 := qA HF 19
  have HK23 := hDx (KS.grow1 HK22.out.drew HB ⟨q19, b19⟩)
  clear q19 b19
  simp only [fill, Act.put, sAx, s0x, s1x, dSx, d0x, f74, f75, f76, f77, f78, f19]
  clear HB HF HN f74 f75 f76 f77 f78 f19
  have FS := (HK23.out.rk 0 rfl (zi_len 16))
  go_upto_region 22 with (refine wpList_store_rk rfl _ _ rfl rfl rfl FS ty109 (nL_len _) ?_)
  obtain ⟨ww24, hv24⟩ := nm (World.setRow ww23 BDA (lk .u64 (nL (vda))))
  have HK24 : Hid (KS [(BDA, .cells (lk .u64 (nL (vda))) 109), (BE, .cells (lk .u64 (nL (ve))) 109), (BDD, .cells (lk .u64 (nL (vdd))) 109), (BD, .cells (lk .u64 (nL (vd))) 109), (BAA, .cells (lk .u64 (nL (vaa))) 109), (BA, .cells (lk .u64 (nL (va))) 109), (Z3, .cells (lk .u64 (nL (b1))) 109), (X3, .cells (lk .u64 (nL (a1))) 109), (Z2, .cells (lk .u64 (nL (b0))) 109), (X2, .cells (lk .u64 (nL (a0))) 109), (X1, .cells (lk .u64 (nL (U))) 109), (BB, bob ((bl u).set 31 (bits .and .u8 (ia (bl u) 31) 127)) zz)] [] w ww24) := by rw [hv24]; exact hDx (HK23.out.setRow 0 rfl _)
  rw [← hv24]
  clear hv24
  clear FS
  try simp only [Act.put, sAx, s0x, s1x]
  refine wp_region_calm 6 [79, 80, 81, 82, 83, 20] [20] [[], [], [79, 80], [], [81, 82], []] (Ftab [(79, .val (.agg (lk .u64 (nL (a1))))), (80, .val (.agg (lk .u64 (nL (b1))))), (81, .val (.agg (lk .u64 (nL (a1 + b1))))), (82, .val (.agg (lk .u64 (nL (vd))))), (83, .val (.agg (lk .u64 (nL (vcb))))), (20, .obj ww24.heap.size (.cells ZRu64x16 109))]) (by kernel_rfl) (by kernel_rfl) (by rfl) (by kernel_rfl) ?hO3 ?hE3
  case hO3 =>
   refine ⟨?_, ?_, ?_, ?_, ?_, ?_, trivial⟩
   ·intro act u HB HO HA
    have e10 : act.eval (.tmp 10) = .pointer (some ⟨X3, 0, none⟩) := HO 10 (by decide)
    have HS := HK24.out.drew.call HB
    exact calm_lM 79 10 e10 (HS.get 7 rfl) ag109 (extN _) (szN _) rfl rfl rfl rfl
   ·intro act u HB HO HA
    have e11 : act.eval (.tmp 11) = .pointer (some ⟨Z3, 0, none⟩) := HO 11 (by decide)
    have HS := HK24.out.drew.call HB
    exact calm_lM 80 11 e11 (HS.get 6 rfl) ag109 (extN _) (szN _) rfl rfl rfl rfl
   ·intro act u HB HO HA
    have e79 : _ = _ := qA HA 79
    have e80 : _ = _ := qA HA 80
    refine calm_call 81 #[.agg (lk .u64 (nL (a1))), .agg (lk .u64 (nL (b1)))] rfl rfl ?_ (by kernel_rfl) (radd_l a1 b1 u) ?_ rfl
    ·simp only [mTx, mCx, mNx, e79, e80]
     try rfl
    rintro e u1 ⟨rfl, B1⟩
    exact ⟨_, rfl, rfl, B1⟩
   ·intro act u HB HO HA
    have e16 : act.eval (.tmp 16) = .pointer (some ⟨BD, 0, none⟩) := HO 16 (by decide)
    have HS := HK24.out.drew.call HB
    exact calm_lM 82 16 e16 (HS.get 3 rfl) ag109 (extN _) (szN _) rfl rfl rfl rfl
   ·intro act u HB HO HA
    have e81 : _ = _ := qA HA 81
    have e82 : _ = _ := qA HA 82
    refine calm_call 83 #[.agg (lk .u64 (nL (a1 + b1))), .agg (lk .u64 (nL (vd)))] rfl rfl ?_ (by kernel_rfl) (rmul_l (a1 + b1) vd u) ?_ rfl
    ·simp only [mTx, mCx, mNx, e81, e82]
     try rfl
    rintro e u1 ⟨rfl, B1⟩
    exact ⟨_, rfl, by rw [ecb.out]; rfl, B1⟩
   intro act u HB HO HA
   refine calm_new 20 (.cells ZRu64x16 109) rfl ?_ (obj_new _ u _ (Nat.le_trans (by exact Nat.le_refl _) HB.size))
   go_simp
  intro vT ww25 HB HF HN
  have f79 : _ = _ := qA HF 79
  have f80 : _ = _ := qA HF 80
  have f81 : _ = _ := qA HF 81
  have f82 : _ = _ := qA HF 82
  have f83 : _ = _ := qA HF 83
  obtain ⟨BCB, f20, q20, b20⟩ : (Fct.obj ww24.heap.size (.cells #[.int .u64 0, .int .u64 0, .int .u64 0, .int .u64 0, .int .u64 0, .int .u64 0, .int .u64 0, .int .u64 0, .int .u64 0, .int .u64 0, .int .u64 0, .int .u64 0, .int .u64 0, .int .u64 0, .int .u64 0, .int .u64 0] 109)).p (vT 20) ww25 := qA HF 20
  have HK25 := hDx (KS.grow1 HK24.out.drew HB ⟨q20, b20⟩)
  clear q20 b20
  simp only [fill, Act.put, sAx, s0x, s1x, dSx, d0x, f79, f80, f81, f82, f83, f20]
  clear HB HF HN f79 f80 f81 f82 f83 f20
  have FS := (HK25.out.rk 0 rfl (zi_len 16))
  go_upto_region 23 with (refine wpList_store_rk rfl _ _ rfl rfl rfl FS ty109 (nL_len _) ?_)
  obtain ⟨ww26, hv26⟩ := nm (World.setRow ww25 BCB (lk .u64 (nL (vcb))))
  have HK26 : Hid (KS [(BCB, .cells (lk .u64 (nL (vcb))) 109), (BDA, .cells (lk .u64 (nL (vda))) 109), (BE, .cells (lk .u64 (nL (ve))) 109), (BDD, .cells (lk .u64 (nL (vdd))) 109), (BD, .cells (lk .u64 (nL (vd))) 109), (BAA, .cells (lk .u64 (nL (vaa))) 109), (BA, .cells (lk .u64 (nL (va))) 109), (Z3, .cells (lk .u64 (nL (b1))) 109), (X3, .cells (lk .u64 (nL (a1))) 109), (Z2, .cells (lk .u64 (nL (b0))) 109), (X2, .cells (lk .u64 (nL (a0))) 109), (X1, .cells (lk .u64 (nL (U))) 109), (BB, bob ((bl u).set 31 (bits .and .u8 (ia (bl u) 31) 127)) zz)] [] w ww26) := by rw [hv26]; exact hDx (HK25.out.setRow 0 rfl _)
  rw [← hv26]
  clear hv26
  clear FS
  have FBDA := (HK26.out.rk 1 rfl (nL_len _))
  have FBCB := (HK26.out.rk 0 rfl (nL_len _))
  go_wp2_with (first | (with_reducible show wpList _ _ _ _ _ _; refine wpList_load_rk (b := BDA) rfl _ rfl rfl FBDA ty109 ?_) | (with_reducible show wpList _ _ _ _ _ _; refine wpList_load_rk (b := BCB) rfl _ rfl rfl FBCB ty109 ?_))
  refine (radd_l (vda) (vcb) _).mono ?_
  rintro e ww27 ⟨rfl, B1⟩
  simp only []
  have HK27 := hDx (HK26.out.call B1)
  clear B1
  clear FBDA FBCB
  rw [← es.out]
  have FH28 := rk_new ww27 109 16 .u64 (zi 16) (zi_len 16)
  go_upto_region 24 with (refine wpList_store_rk rfl _ _ rfl rfl rfl FH28 ty109 (nL_len _) ?_)
  have hm28 := (HK27.out.made (.cells ZRu64x16 109)).setRow 0 rfl (lk .u64 (nL (vS2)))
  obtain ⟨BS, hgBS⟩ := nm ww27.heap.size
  obtain ⟨ww28, hv28⟩ := nm (World.setRow (World.alloc ww27 (.cells ZRu64x16 109)) ww27.heap.size (lk .u64 (nL (vS2))))
  rw [← hv28, ← hgBS] at hm28
  rw [← hv28]
  try rw [← hgBS]
  have HK28 : Hid (KS [(BS, .cells (lk .u64 (nL (vS2))) 109), (BCB, .cells (lk .u64 (nL (vcb))) 109), (BDA, .cells (lk .u64 (nL (vda))) 109), (BE, .cells (lk .u64 (nL (ve))) 109), (BDD, .cells (lk .u64 (nL (vdd))) 109), (BD, .cells (lk .u64 (nL (vd))) 109), (BAA, .cells (lk .u64 (nL (vaa))) 109), (BA, .cells (lk .u64 (nL (va))) 109), (Z3, .cells (lk .u64 (nL (b1))) 109), (X3, .cells (lk .u64 (nL (a1))) 109), (Z2, .cells (lk .u64 (nL (b0))) 109), (X2, .cells (lk .u64 (nL (a0))) 109), (X1, .cells (lk .u64 (nL (U))) 109), (BB, bob ((bl u).set 31 (bits .and .u8 (ia (bl u) 31) 127)) zz)] [] w ww28) := hDx hm28
  clear hm28 hv28 hgBS
  have FBS := (HK28.out.rk 0 rfl (nL_len _))
  go_wp2_with (first | (with_reducible show wpList _ _ _ _ _ _; refine wpList_load_rk (b := BS) rfl _ rfl rfl FBS ty109 ?_))
  refine (rmul_l (vS2) (vS2) _).mono ?_
  rintro e ww29 ⟨rfl, B1⟩
  simp only []
  have HK29 := hDx (HK28.out.call B1)
  clear B1
  clear FBS
  rw [← e3.out]
  have FS := (HK29.out.rk 9 rfl (nL_len _))
  go_upto_region 25 with (refine wpList_store_rk rfl _ _ rfl rfl rfl FS ty109 (nL_len _) ?_)
  obtain ⟨ww30, hv30⟩ := nm (World.setRow ww29 X3 (lk .u64 (nL (n3))))
  have HK30 : Hid (KS [(BS, .cells (lk .u64 (nL (vS2))) 109), (BCB, .cells (lk .u64 (nL (vcb))) 109), (BDA, .cells (lk .u64 (nL (vda))) 109), (BE, .cells (lk .u64 (nL (ve))) 109), (BDD, .cells (lk .u64 (nL (vdd))) 109), (BD, .cells (lk .u64 (nL (vd))) 109), (BAA, .cells (lk .u64 (nL (vaa))) 109), (BA, .cells (lk .u64 (nL (va))) 109), (Z3, .cells (lk .u64 (nL (b1))) 109), (X3, .cells (lk .u64 (nL (n3))) 109), (Z2, .cells (lk .u64 (nL (b0))) 109), (X2, .cells (lk .u64 (nL (a0))) 109), (X1, .cells (lk .u64 (nL (U))) 109), (BB, bob ((bl u).set 31 (bits .and .u8 (ia (bl u) 31) 127)) zz)] [] w ww30) := by rw [hv30]; exact hDx (HK29.out.setRow 9 rfl _)
  rw [← hv30]
  clear hv30
  clear FS
  have FBDA := (HK30.out.rk 2 rfl (nL_len _))
  have FBCB := (HK30.out.rk 1 rfl (nL_len _))
  go_wp2_with (first | (with_reducible show wpList _ _ _ _ _ _; refine wpList_load_rk (b := BDA) rfl _ rfl rfl FBDA ty109 ?_) | (with_reducible show wpList _ _ _ _ _ _; refine wpList_load_rk (b := BCB) rfl _ rfl rfl FBCB ty109 ?_))
  refine (rsub_l (vda) (vcb) _).mono ?_
  rintro e ww31 ⟨rfl, B1⟩
  simp only []
  have HK31 := hDx (HK30.out.call B1)
  clear B1
  clear FBDA FBCB
  rw [← et.out]
  have FH32 := rk_new ww31 109 16 .u64 (zi 16) (zi_len 16)
  go_upto_region 26 with (refine wpList_store_rk rfl _ _ rfl rfl rfl FH32 ty109 (nL_len _) ?_)
  have hm32 := (HK31.out.made (.cells ZRu64x16 109)).setRow 0 rfl (lk .u64 (nL (vt)))
  obtain ⟨BT, hgBT⟩ := nm ww31.heap.size
  obtain ⟨ww32, hv32⟩ := nm (World.setRow (World.alloc ww31 (.cells ZRu64x16 109)) ww31.heap.size (lk .u64 (nL (vt))))
  rw [← hv32, ← hgBT] at hm32
  rw [← hv32]
  try rw [← hgBT]
  have HK32 : Hid (KS [(BT, .cells (lk .u64 (nL (vt))) 109), (BS, .cells (lk .u64 (nL (vS2))) 109), (BCB, .cells (lk .u64 (nL (vcb))) 109), (BDA, .cells (lk .u64 (nL (vda))) 109), (BE, .cells (lk .u64 (nL (ve))) 109), (BDD, .cells (lk .u64 (nL (vdd))) 109), (BD, .cells (lk .u64 (nL (vd))) 109), (BAA, .cells (lk .u64 (nL (vaa))) 109), (BA, .cells (lk .u64 (nL (va))) 109), (Z3, .cells (lk .u64 (nL (b1))) 109), (X3, .cells (lk .u64 (nL (n3))) 109), (Z2, .cells (lk .u64 (nL (b0))) 109), (X2, .cells (lk .u64 (nL (a0))) 109), (X1, .cells (lk .u64 (nL (U))) 109), (BB, bob ((bl u).set 31 (bits .and .u8 (ia (bl u) 31) 127)) zz)] [] w ww32) := hDx hm32
  clear hm32 hv32 hgBT
  try simp only [Act.put, sAx, s0x, s1x]
  refine wp_region_cv 5 [93, 94, 95, 96, 97] [[], [], [], [94, 95], [93, 96]] [(93, .agg (lk .u64 (nL (U)))), (94, .agg (lk .u64 (nL (vt)))), (95, .agg (lk .u64 (nL (vt)))), (96, .agg (lk .u64 (nL (vt * vt)))), (97, .agg (lk .u64 (nL (m3))))] rfl (by kernel_rfl) (by kernel_rfl) (by rfl) (by kernel_rfl) ?hO4 ?hE4
  case hO4 =>
   refine ⟨?_, ?_, ?_, ?_, ?_, trivial⟩
   ·intro act u HB HO HA
    have e7 : act.eval (.tmp 7) = .pointer (some ⟨X1, 0, none⟩) := HO 7 (by decide)
    have HS := HK32.out.drew.call HB
    exact calm_lM 93 7 e7 (HS.get 13 rfl) ag109 (extN _) (szN _) rfl rfl rfl rfl
   ·intro act u HB HO HA
    have e22 : act.eval (.tmp 22) = .pointer (some ⟨BT, 0, none⟩) := HO 22 (by decide)
    have HS := HK32.out.drew.call HB
    exact calm_lM 94 22 e22 (HS.get 0 rfl) ag109 (extN _) (szN _) rfl rfl rfl rfl
   ·intro act u HB HO HA
    have e22 : act.eval (.tmp 22) = .pointer (some ⟨BT, 0, none⟩) := HO 22 (by decide)
    have HS := HK32.out.drew.call HB
    exact calm_lM 95 22 e22 (HS.get 0 rfl) ag109 (extN _) (szN _) rfl rfl rfl rfl
   ·intro act u HB HO HA
    have e94 : _ = _ := qA HA 94
    have e95 : _ = _ := qA HA 95
    refine calm_call 96 #[.agg (lk .u64 (nL (vt))), .agg (lk .u64 (nL (vt)))] rfl rfl ?_ (by kernel_rfl) (rmul_l vt vt u) ?_ rfl
    ·simp only [mTx, mCx, mNx, e94, e95]
     try rfl
    rintro e u1 ⟨rfl, B1⟩
    exact ⟨_, rfl, rfl, B1⟩
   intro act u HB HO HA
   have e93 : _ = _ := qA HA 93
   have e96 : _ = _ := qA HA 96
   refine calm_call 97 #[.agg (lk .u64 (nL (U))), .agg (lk .u64 (nL (vt * vt)))] rfl rfl ?_ (by kernel_rfl) (rmul_l U (vt * vt) u) ?_ rfl
   ·simp only [mTx, mCx, mNx, e93, e96]
    try rfl
   rintro e u1 ⟨rfl, B1⟩
   exact ⟨_, rfl, by rw [f3.out]; rfl, B1⟩
  intro ww33 HB
  have HK33 := hDx (HK32.out.drew.call HB)
  simp only [fillL, Act.put, sAx, s0x, s1x, dSx, d0x]
  clear HB
  have FS := (HK33.out.rk 9 rfl (nL_len _))
  go_upto_region 27 with (refine wpList_store_rk rfl _ _ rfl rfl rfl FS ty109 (nL_len _) ?_)
  obtain ⟨ww34, hv34⟩ := nm (World.setRow ww33 Z3 (lk .u64 (nL (m3))))
  have HK34 : Hid (KS [(BT, .cells (lk .u64 (nL (vt))) 109), (BS, .cells (lk .u64 (nL (vS2))) 109), (BCB, .cells (lk .u64 (nL (vcb))) 109), (BDA, .cells (lk .u64 (nL (vda))) 109), (BE, .cells (lk .u64 (nL (ve))) 109), (BDD, .cells (lk .u64 (nL (vdd))) 109), (BD, .cells (lk .u64 (nL (vd))) 109), (BAA, .cells (lk .u64 (nL (vaa))) 109), (BA, .cells (lk .u64 (nL (va))) 109), (Z3, .cells (lk .u64 (nL (m3))) 109), (X3, .cells (lk .u64 (nL (n3))) 109), (Z2, .cells (lk .u64 (nL (b0))) 109), (X2, .cells (lk .u64 (nL (a0))) 109), (X1, .cells (lk .u64 (nL (U))) 109), (BB, bob ((bl u).set 31 (bits .and .u8 (ia (bl u) 31) 127)) zz)] [] w ww34) := by rw [hv34]; exact hDx (HK33.out.setRow 9 rfl _)
  rw [← hv34]
  clear hv34
  clear FS
  have FBAA := (HK34.out.rk 7 rfl (nL_len _))
  have FBDD := (HK34.out.rk 5 rfl (nL_len _))
  go_wp2_with (first | (with_reducible show wpList _ _ _ _ _ _; refine wpList_load_rk (b := BAA) rfl _ rfl rfl FBAA ty109 ?_) | (with_reducible show wpList _ _ _ _ _ _; refine wpList_load_rk (b := BDD) rfl _ rfl rfl FBDD ty109 ?_))
  refine (rmul_l (vaa) (vdd) _).mono ?_
  rintro e ww35 ⟨rfl, B1⟩
  simp only []
  have HK35 := hDx (HK34.out.call B1)
  clear B1
  clear FBAA FBDD
  rw [← e2.out]
  have FS := (HK35.out.rk 12 rfl (nL_len _))
  go_upto_region 28 with (refine wpList_store_rk rfl _ _ rfl rfl rfl FS ty109 (nL_len _) ?_)
  obtain ⟨ww36, hv36⟩ := nm (World.setRow ww35 X2 (lk .u64 (nL (n2))))
  have HK36 : Hid (KS [(BT, .cells (lk .u64 (nL (vt))) 109), (BS, .cells (lk .u64 (nL (vS2))) 109), (BCB, .cells (lk .u64 (nL (vcb))) 109), (BDA, .cells (lk .u64 (nL (vda))) 109), (BE, .cells (lk .u64 (nL (ve))) 109), (BDD, .cells (lk .u64 (nL (vdd))) 109), (BD, .cells (lk .u64 (nL (vd))) 109), (BAA, .cells (lk .u64 (nL (vaa))) 109), (BA, .cells (lk .u64 (nL (va))) 109), (Z3, .cells (lk .u64 (nL (m3))) 109), (X3, .cells (lk .u64 (nL (n3))) 109), (Z2, .cells (lk .u64 (nL (b0))) 109), (X2, .cells (lk .u64 (nL (n2))) 109), (X1, .cells (lk .u64 (nL (U))) 109), (BB, bob ((bl u).set 31 (bits .and .u8 (ia (bl u) 31) 127)) zz)] [] w ww36) := by rw [hv36]; exact hDx (HK35.out.setRow 12 rfl _)
  rw [← hv36]
  clear hv36
  clear FS
  try simp only [Act.put, sAx, s0x, s1x]
  refine wp_region_cv 7 [101, 102, 103, 104, 105, 106, 107] [[], [], [], [], [103, 104], [102, 105], [101, 106]] [(101, .agg (lk .u64 (nL (ve)))), (102, .agg (lk .u64 (nL (vaa)))), (103, .agg (lk .u64 (nL (121665)))), (104, .agg (lk .u64 (nL (ve)))), (105, .agg (lk .u64 (nL (121665 * ve)))), (106, .agg (lk .u64 (nL (vaa + 121665 * ve)))), (107, .agg (lk .u64 (nL (m2))))] rfl (by kernel_rfl) (by kernel_rfl) (by rfl) (by kernel_rfl) ?hO5 ?hE5
  case hO5 =>
   refine ⟨?_, ?_, ?_, ?_, ?_, ?_, ?_, trivial⟩
   ·intro act u HB HO HA
    have e18 : act.eval (.tmp 18) = .pointer (some ⟨BE, 0, none⟩) := HO 18 (by decide)
    have HS := HK36.out.drew.call HB
    exact calm_lM 101 18 e18 (HS.get 4 rfl) ag109 (extN _) (szN _) rfl rfl rfl rfl
   ·intro act u HB HO HA
    have e15 : act.eval (.tmp 15) = .pointer (some ⟨BAA, 0, none⟩) := HO 15 (by decide)
    have HS := HK36.out.drew.call HB
    exact calm_lM 102 15 e15 (HS.get 7 rfl) ag109 (extN _) (szN _) rfl rfl rfl rfl
   ·intro act u HB HO HA
    refine calm_call 103 #[.int .u32 121665] rfl rfl ?_ (by kernel_rfl) (r121_l u) ?_ rfl
    ·simp only [mTx, mCx, mNx]
     try rfl
    rintro e u1 ⟨rfl, B1⟩
    exact ⟨_, rfl, rfl, B1⟩
   ·intro act u HB HO HA
    have e18 : act.eval (.tmp 18) = .pointer (some ⟨BE, 0, none⟩) := HO 18 (by decide)
    have HS := HK36.out.drew.call HB
    exact calm_lM 104 18 e18 (HS.get 4 rfl) ag109 (extN _) (szN _) rfl rfl rfl rfl
   ·intro act u HB HO HA
    have e103 : _ = _ := qA HA 103
    have e104 : _ = _ := qA HA 104
    refine calm_call 105 #[.agg (lk .u64 (nL (121665))), .agg (lk .u64 (nL (ve)))] rfl rfl ?_ (by kernel_rfl) (rmul_l 121665 ve u) ?_ rfl
    ·simp only [mTx, mCx, mNx, e103, e104]
     try rfl
    rintro e u1 ⟨rfl, B1⟩
    exact ⟨_, rfl, rfl, B1⟩
   ·intro act u HB HO HA
    have e102 : _ = _ := qA HA 102
    have e105 : _ = _ := qA HA 105
    refine calm_call 106 #[.agg (lk .u64 (nL (vaa))), .agg (lk .u64 (nL (121665 * ve)))] rfl rfl ?_ (by kernel_rfl) (radd_l vaa (121665 * ve) u) ?_ rfl
    ·simp only [mTx, mCx, mNx, e102, e105]
     try rfl
    rintro e u1 ⟨rfl, B1⟩
    exact ⟨_, rfl, rfl, B1⟩
   intro act u HB HO HA
   have e101 : _ = _ := qA HA 101
   have e106 : _ = _ := qA HA 106
   refine calm_call 107 #[.agg (lk .u64 (nL (ve))), .agg (lk .u64 (nL (vaa + 121665 * ve)))] rfl rfl ?_ (by kernel_rfl) (rmul_l ve (vaa + 121665 * ve) u) ?_ rfl
   ·simp only [mTx, mCx, mNx, e101, e106]
    try rfl
   rintro e u1 ⟨rfl, B1⟩
   exact ⟨_, rfl, by rw [f2.out]; rfl, B1⟩
  intro ww37 HB
  have HK37 := hDx (HK36.out.drew.call HB)
  simp only [fillL, Act.put, sAx, s0x, s1x, dSx, d0x]
  clear HB
  have FS := (HK37.out.rk 11 rfl (nL_len _))
  go_upto_region 29 with (refine wpList_store_rk rfl _ _ rfl rfl rfl FS ty109 (nL_len _) ?_)
  obtain ⟨ww38, hv38⟩ := nm (World.setRow ww37 Z2 (lk .u64 (nL (m2))))
  have HK38 : Hid (KS [(BT, .cells (lk .u64 (nL (vt))) 109), (BS, .cells (lk .u64 (nL (vS2))) 109), (BCB, .cells (lk .u64 (nL (vcb))) 109), (BDA, .cells (lk .u64 (nL (vda))) 109), (BE, .cells (lk .u64 (nL (ve))) 109), (BDD, .cells (lk .u64 (nL (vdd))) 109), (BD, .cells (lk .u64 (nL (vd))) 109), (BAA, .cells (lk .u64 (nL (vaa))) 109), (BA, .cells (lk .u64 (nL (va))) 109), (Z3, .cells (lk .u64 (nL (m3))) 109), (X3, .cells (lk .u64 (nL (n3))) 109), (Z2, .cells (lk .u64 (nL (m2))) 109), (X2, .cells (lk .u64 (nL (n2))) 109), (X1, .cells (lk .u64 (nL (U))) 109), (BB, bob ((bl u).set 31 (bits .and .u8 (ia (bl u) 31) 127)) zz)] [] w ww38) := by rw [hv38]; exact hDx (HK37.out.setRow 11 rfl _)
  rw [← hv38]
  clear hv38
  clear FS
  go_wp2_with fail
  go_roundw
  case rel =>
   refine ⟨m, stepL U false ⟨a0, b0, a1, b1⟩, hj2.out, rfl, by rw [← runL_f U K m ⟨a0, b0, a1, b1⟩ hk]; exact hS.out, ?_⟩
   have q2 : stepL U false ⟨a0, b0, a1, b1⟩ = ⟨n2, m2, n3, m3⟩ := by
    rw [f3.out, e3.out, f2.out, e2.out, et.out, es.out, ecb.out, eda.out, ee.out, edd.out, ed.out, eaa.out, ea.out]
    rfl
   rw [q2]
   exact HK38.out.tail.tail.tail.tail.tail.tail.tail.tail.tail
  exact measD m
 go_upto_region 14 with (first | (with_reducible show Oper.wp _ _ _ _ _ _; refine wp_bin q1 rfl rfl rfl ?_) | (with_reducible show Oper.wp _ _ _ _ _ _; refine wp_bin r1 rfl rfl rfl ?_) | (with_reducible show Oper.wp _ _ _ _ _ _; refine wp_shift hZ (Or.inl rfl) rfl rfl rfl ?_))
 clear q1 r1 r4 hZ hix hbit
 have FX2 := (HK12.out.rk 3 rfl (nL_len _))
 have FX3 := (HK12.out.rk 1 rfl (nL_len _))
 have K2 := HK12.out.setRow 3 rfl (lk .u64 (nL (a1)))
 go_upto_region 15 with (first | (with_reducible show wpList _ _ _ _ _ _; have S0 := FX2; clear S0; refine wpList_load_rk (b := X2) rfl _ rfl rfl FX2 ty109 ?_) | (with_reducible show wpList _ _ _ _ _ _; have S0 := FX3; clear S0; refine wpList_load_rk (b := X3) rfl _ rfl rfl FX3 ty109 ?_) | (with_reducible show wpList _ _ _ _ _ _; have S0 := FX2; clear S0; refine wpList_store_rk (b := X2) (u := nL (a1)) rfl _ _ rfl rfl rfl FX2 ty109 (nL_len _) ?_; obtain ⟨wA, hwA⟩ : ∃ wX, wX = World.setRow wr X2 (lk .u64 (nL (a1))) := ⟨_, rfl⟩; rw [← hwA] at K2; rw [← hwA]; clear FX2 FX3 hwA; have GX3 := K2.rk 1 rfl (nL_len (a1))) | (with_reducible show wpList _ _ _ _ _ _; have S0 := GX3; clear S0; refine wpList_store_rk (b := X3) (u := nL (a0)) rfl _ _ rfl rfl rfl GX3 ty109 (nL_len _) ?_; have K3 := K2.setRow 1 rfl (lk .u64 (nL (a0))); obtain ⟨wB, hwB⟩ : ∃ wX, wX = World.setRow wA X3 (lk .u64 (nL (a0))) := ⟨_, rfl⟩; rw [← hwB] at K3; rw [← hwB]; clear GX3 hwB))
 obtain ⟨ww13, hw13⟩ := nm wB
 rw [← hw13] at K3
 rw [← hw13]
 have HK13 : Hid (KS [(Z3, .cells (lk .u64 (nL (b1))) 109), (X3, .cells (lk .u64 (nL (a0))) 109), (Z2, .cells (lk .u64 (nL (b0))) 109), (X2, .cells (lk .u64 (nL (a1))) 109), (X1, .cells (lk .u64 (nL (U))) 109), (BB, bob ((bl u).set 31 (bits .and .u8 (ia (bl u) 31) 127)) zz)] [] w ww13) := hDx K3
 clear K2 K3 hw13
 have FZ2 := (HK13.out.rk 2 rfl (nL_len _))
 have FZ3 := (HK13.out.rk 0 rfl (nL_len _))
 have K2 := HK13.out.setRow 2 rfl (lk .u64 (nL (b1)))
 go_upto_region 16 with (first | (with_reducible show wpList _ _ _ _ _ _; have S0 := FZ2; clear S0; refine wpList_load_rk (b := Z2) rfl _ rfl rfl FZ2 ty109 ?_) | (with_reducible show wpList _ _ _ _ _ _; have S0 := FZ3; clear S0; refine wpList_load_rk (b := Z3) rfl _ rfl rfl FZ3 ty109 ?_) | (with_reducible show wpList _ _ _ _ _ _; have S0 := FZ2; clear S0; refine wpList_store_rk (b := Z2) (u := nL (b1)) rfl _ _ rfl rfl rfl FZ2 ty109 (nL_len _) ?_; obtain ⟨wA, hwA⟩ : ∃ wX, wX = World.setRow ww13 Z2 (lk .u64 (nL (b1))) := ⟨_, rfl⟩; rw [← hwA] at K2; rw [← hwA]; clear FZ2 FZ3 hwA; have GZ3 := K2.rk 0 rfl (nL_len (b1))) | (with_reducible show wpList _ _ _ _ _ _; have S0 := GZ3; clear S0; refine wpList_store_rk (b := Z3) (u := nL (b0)) rfl _ _ rfl rfl rfl GZ3 ty109 (nL_len _) ?_; have K3 := K2.setRow 0 rfl (lk .u64 (nL (b0))); obtain ⟨wB, hwB⟩ : ∃ wX, wX = World.setRow wA Z3 (lk .u64 (nL (b0))) := ⟨_, rfl⟩; rw [← hwB] at K3; rw [← hwB]; clear GZ3 hwB))
 obtain ⟨ww14, hw14⟩ := nm wB
 rw [← hw14] at K3
 rw [← hw14]
 have HK14 : Hid (KS [(Z3, .cells (lk .u64 (nL (b0))) 109), (X3, .cells (lk .u64 (nL (a0))) 109), (Z2, .cells (lk .u64 (nL (b1))) 109), (X2, .cells (lk .u64 (nL (a1))) 109), (X1, .cells (lk .u64 (nL (U))) 109), (BB, bob ((bl u).set 31 (bits .and .u8 (ia (bl u) 31) 127)) zz)] [] w ww14) := hDx K3
 clear K2 K3 hw14
 obtain ⟨va, ea⟩ := nm (a1 + b1)
 obtain ⟨vaa, eaa⟩ := nm (va * va)
 obtain ⟨vd, ed⟩ := nm (a1 - b1)
 obtain ⟨vdd, edd⟩ := nm (vd * vd)
 obtain ⟨ve, ee⟩ := nm (vaa - vdd)
 obtain ⟨vda, eda⟩ := nm ((a0 - b0) * va)
 obtain ⟨vcb, ecb⟩ := nm ((a0 + b0) * vd)
 obtain ⟨vS2, es⟩ := nm (vda + vcb)
 obtain ⟨vt, et⟩ := nm (vda - vcb)
 obtain ⟨n2, e2⟩ := nm (vaa * vdd)
 obtain ⟨m2, f2⟩ : ∃ y, y = ve * (vaa + 121665 * ve) := ⟨_, rfl⟩
 obtain ⟨n3, e3⟩ := nm (vS2 * vS2)
 obtain ⟨m3, f3⟩ := nm (U * (vt * vt))
 replace ea := hDx ea
 replace eaa := hDx eaa
 replace ed := hDx ed
 replace edd := hDx edd
 replace ee := hDx ee
 replace eda := hDx eda
 replace ecb := hDx ecb
 replace es := hDx es
 replace et := hDx et
 replace e2 := hDx e2
 replace f2 := hDx f2
 replace e3 := hDx e3
 replace f3 := hDx f3
 have FX2 := (HK14.out.rk 3 rfl (nL_len _))
 have FZ2 := (HK14.out.rk 2 rfl (nL_len _))
 go_wp2_with (first | (with_reducible show wpList _ _ _ _ _ _; refine wpList_load_rk (b := X2) rfl _ rfl rfl FX2 ty109 ?_) | (with_reducible show wpList _ _ _ _ _ _; refine wpList_load_rk (b := Z2) rfl _ rfl rfl FZ2 ty109 ?_))
 refine (radd_l (a1) (b1) _).mono ?_
 rintro e ww15 ⟨rfl, B1⟩
 simp only []
 have HK15 := hDx (HK14.out.call B1)
 clear B1
 clear FX2 FZ2
 rw [← ea.out]
 have FH16 := rk_new ww15 109 16 .u64 (zi 16) (zi_len 16)
 go_upto_region 17 with (refine wpList_store_rk rfl _ _ rfl rfl rfl FH16 ty109 (nL_len _) ?_)
 have hm16 := (HK15.out.made (.cells ZRu64x16 109)).setRow 0 rfl (lk .u64 (nL (va)))
 obtain ⟨BA, hgBA⟩ := nm ww15.heap.size
 obtain ⟨ww16, hv16⟩ := nm (World.setRow (World.alloc ww15 (.cells ZRu64x16 109)) ww15.heap.size (lk .u64 (nL (va))))
 rw [← hv16, ← hgBA] at hm16
 rw [← hv16]
 try rw [← hgBA]
 have HK16 : Hid (KS [(BA, .cells (lk .u64 (nL (va))) 109), (Z3, .cells (lk .u64 (nL (b0))) 109), (X3, .cells (lk .u64 (nL (a0))) 109), (Z2, .cells (lk .u64 (nL (b1))) 109), (X2, .cells (lk .u64 (nL (a1))) 109), (X1, .cells (lk .u64 (nL (U))) 109), (BB, bob ((bl u).set 31 (bits .and .u8 (ia (bl u) 31) 127)) zz)] [] w ww16) := hDx hm16
 clear hm16 hv16 hgBA
 have FBA := (HK16.out.rk 0 rfl (nL_len _))
 go_wp2_with (first | (with_reducible show wpList _ _ _ _ _ _; refine wpList_load_rk (b := BA) rfl _ rfl rfl FBA ty109 ?_))
 refine (rmul_l (va) (va) _).mono ?_
 rintro e ww17 ⟨rfl, B1⟩
 simp only []
 have HK17 := hDx (HK16.out.call B1)
 clear B1
 clear FBA
 rw [← eaa.out]
 have FH18 := rk_new ww17 109 16 .u64 (zi 16) (zi_len 16)
 go_upto_region 18 with (refine wpList_store_rk rfl _ _ rfl rfl rfl FH18 ty109 (nL_len _) ?_)
 have hm18 := (HK17.out.made (.cells ZRu64x16 109)).setRow 0 rfl (lk .u64 (nL (vaa)))
 obtain ⟨BAA, hgBAA⟩ := nm ww17.heap.size
 obtain ⟨ww18, hv18⟩ := nm (World.setRow (World.alloc ww17 (.cells ZRu64x16 109)) ww17.heap.size (lk .u64 (nL (vaa))))
 rw [← hv18, ← hgBAA] at hm18
 rw [← hv18]
 try rw [← hgBAA]
 have HK18 : Hid (KS [(BAA, .cells (lk .u64 (nL (vaa))) 109), (BA, .cells (lk .u64 (nL (va))) 109), (Z3, .cells (lk .u64 (nL (b0))) 109), (X3, .cells (lk .u64 (nL (a0))) 109), (Z2, .cells (lk .u64 (nL (b1))) 109), (X2, .cells (lk .u64 (nL (a1))) 109), (X1, .cells (lk .u64 (nL (U))) 109), (BB, bob ((bl u).set 31 (bits .and .u8 (ia (bl u) 31) 127)) zz)] [] w ww18) := hDx hm18
 clear hm18 hv18 hgBAA
 have FX2 := (HK18.out.rk 5 rfl (nL_len _))
 have FZ2 := (HK18.out.rk 4 rfl (nL_len _))
 go_wp2_with (first | (with_reducible show wpList _ _ _ _ _ _; refine wpList_load_rk (b := X2) rfl _ rfl rfl FX2 ty109 ?_) | (with_reducible show wpList _ _ _ _ _ _; refine wpList_load_rk (b := Z2) rfl _ rfl rfl FZ2 ty109 ?_))
 refine (rsub_l (a1) (b1) _).mono ?_
 rintro e ww19 ⟨rfl, B1⟩
 simp only []
 have HK19 := hDx (HK18.out.call B1)
 clear B1
 clear FX2 FZ2
 rw [← ed.out]
 have FH20 := rk_new ww19 109 16 .u64 (zi 16) (zi_len 16)
 go_upto_region 19 with (refine wpList_store_rk rfl _ _ rfl rfl rfl FH20 ty109 (nL_len _) ?_)
 have hm20 := (HK19.out.made (.cells ZRu64x16 109)).setRow 0 rfl (lk .u64 (nL (vd)))
 obtain ⟨BD, hgBD⟩ := nm ww19.heap.size
 obtain ⟨ww20, hv20⟩ := nm (World.setRow (World.alloc ww19 (.cells ZRu64x16 109)) ww19.heap.size (lk .u64 (nL (vd))))
 rw [← hv20, ← hgBD] at hm20
 rw [← hv20]
 try rw [← hgBD]
 have HK20 : Hid (KS [(BD, .cells (lk .u64 (nL (vd))) 109), (BAA, .cells (lk .u64 (nL (vaa))) 109), (BA, .cells (lk .u64 (nL (va))) 109), (Z3, .cells (lk .u64 (nL (b0))) 109), (X3, .cells (lk .u64 (nL (a0))) 109), (Z2, .cells (lk .u64 (nL (b1))) 109), (X2, .cells (lk .u64 (nL (a1))) 109), (X1, .cells (lk .u64 (nL (U))) 109), (BB, bob ((bl u).set 31 (bits .and .u8 (ia (bl u) 31) 127)) zz)] [] w ww20) := hDx hm20
 clear hm20 hv20 hgBD
 have FBD := (HK20.out.rk 0 rfl (nL_len _))
 go_wp2_with (first | (with_reducible show wpList _ _ _ _ _ _; refine wpList_load_rk (b := BD) rfl _ rfl rfl FBD ty109 ?_))
 refine (rmul_l (vd) (vd) _).mono ?_
 rintro e ww21 ⟨rfl, B1⟩
 simp only []
 have HK21 := hDx (HK20.out.call B1)
 clear B1
 clear FBD
 rw [← edd.out]
 have FH22 := rk_new ww21 109 16 .u64 (zi 16) (zi_len 16)
 go_upto_region 20 with (refine wpList_store_rk rfl _ _ rfl rfl rfl FH22 ty109 (nL_len _) ?_)
 have hm22 := (HK21.out.made (.cells ZRu64x16 109)).setRow 0 rfl (lk .u64 (nL (vdd)))
 obtain ⟨BDD, hgBDD⟩ := nm ww21.heap.size
 obtain ⟨ww22, hv22⟩ := nm (World.setRow (World.alloc ww21 (.cells ZRu64x16 109)) ww21.heap.size (lk .u64 (nL (vdd))))
 rw [← hv22, ← hgBDD] at hm22
 rw [← hv22]
 try rw [← hgBDD]
 have HK22 : Hid (KS [(BDD, .cells (lk .u64 (nL (vdd))) 109), (BD, .cells (lk .u64 (nL (vd))) 109), (BAA, .cells (lk .u64 (nL (vaa))) 109), (BA, .cells (lk .u64 (nL (va))) 109), (Z3, .cells (lk .u64 (nL (b0))) 109), (X3, .cells (lk .u64 (nL (a0))) 109), (Z2, .cells (lk .u64 (nL (b1))) 109), (X2, .cells (lk .u64 (nL (a1))) 109), (X1, .cells (lk .u64 (nL (U))) 109), (BB, bob ((bl u).set 31 (bits .and .u8 (ia (bl u) 31) 127)) zz)] [] w ww22) := hDx hm22
 clear hm22 hv22 hgBDD
 have FBAA := (HK22.out.rk 2 rfl (nL_len _))
 have FBDD := (HK22.out.rk 0 rfl (nL_len _))
 go_wp2_with (first | (with_reducible show wpList _ _ _ _ _ _; refine wpList_load_rk (b := BAA) rfl _ rfl rfl FBAA ty109 ?_) | (with_reducible show wpList _ _ _ _ _ _; refine wpList_load_rk (b := BDD) rfl _ rfl rfl FBDD ty109 ?_))
 refine (rsub_l (vaa) (vdd) _).mono ?_
 rintro e ww23 ⟨rfl, B1⟩
 simp only []
 have HK23 := hDx (HK22.out.call B1)
 clear B1
 clear FBAA FBDD
 rw [← ee.out]
 have FH24 := rk_new ww23 109 16 .u64 (zi 16) (zi_len 16)
 go_upto_region 21 with (refine wpList_store_rk rfl _ _ rfl rfl rfl FH24 ty109 (nL_len _) ?_)
 have hm24 := (HK23.out.made (.cells ZRu64x16 109)).setRow 0 rfl (lk .u64 (nL (ve)))
 obtain ⟨BE, hgBE⟩ := nm ww23.heap.size
 obtain ⟨ww24, hv24⟩ := nm (World.setRow (World.alloc ww23 (.cells ZRu64x16 109)) ww23.heap.size (lk .u64 (nL (ve))))
 rw [← hv24, ← hgBE] at hm24
 rw [← hv24]
 try rw [← hgBE]
 have HK24 : Hid (KS [(BE, .cells (lk .u64 (nL (ve))) 109), (BDD, .cells (lk .u64 (nL (vdd))) 109), (BD, .cells (lk .u64 (nL (vd))) 109), (BAA, .cells (lk .u64 (nL (vaa))) 109), (BA, .cells (lk .u64 (nL (va))) 109), (Z3, .cells (lk .u64 (nL (b0))) 109), (X3, .cells (lk .u64 (nL (a0))) 109), (Z2, .cells (lk .u64 (nL (b1))) 109), (X2, .cells (lk .u64 (nL (a1))) 109), (X1, .cells (lk .u64 (nL (U))) 109), (BB, bob ((bl u).set 31 (bits .and .u8 (ia (bl u) 31) 127)) zz)] [] w ww24) := hDx hm24
 clear hm24 hv24 hgBE
 try simp only [Act.put, sAx, s0x, s1x]
 refine wp_region_calm 6 [74, 75, 76, 77, 78, 19] [19] [[], [], [74, 75], [], [76, 77], []] (Ftab [(74, .val (.agg (lk .u64 (nL (a0))))), (75, .val (.agg (lk .u64 (nL (b0))))), (76, .val (.agg (lk .u64 (nL (a0 - b0))))), (77, .val (.agg (lk .u64 (nL (va))))), (78, .val (.agg (lk .u64 (nL (vda))))), (19, .obj ww24.heap.size (.cells ZRu64x16 109))]) (by kernel_rfl) (by kernel_rfl) (by rfl) (by kernel_rfl) ?hO6 ?hE6
 case hO6 =>
  refine ⟨?_, ?_, ?_, ?_, ?_, ?_, trivial⟩
  ·intro act u HB HO HA
   have e10 : act.eval (.tmp 10) = .pointer (some ⟨X3, 0, none⟩) := HO 10 (by decide)
   have HS := HK24.out.drew.call HB
   exact calm_lM 74 10 e10 (HS.get 6 rfl) ag109 (extN _) (szN _) rfl rfl rfl rfl
  ·intro act u HB HO HA
   have e11 : act.eval (.tmp 11) = .pointer (some ⟨Z3, 0, none⟩) := HO 11 (by decide)
   have HS := HK24.out.drew.call HB
   exact calm_lM 75 11 e11 (HS.get 5 rfl) ag109 (extN _) (szN _) rfl rfl rfl rfl
  ·intro act u HB HO HA
   have e74 : _ = _ := qA HA 74
   have e75 : _ = _ := qA HA 75
   refine calm_call 76 #[.agg (lk .u64 (nL (a0))), .agg (lk .u64 (nL (b0)))] rfl rfl ?_ (by kernel_rfl) (rsub_l a0 b0 u) ?_ rfl
   ·simp only [mTx, mCx, mNx, e74, e75]
    try rfl
   rintro e u1 ⟨rfl, B1⟩
   exact ⟨_, rfl, rfl, B1⟩
  ·intro act u HB HO HA
   have e14 : act.eval (.tmp 14) = .pointer (some ⟨BA, 0, none⟩) := HO 14 (by decide)
   have HS := HK24.out.drew.call HB
   exact calm_lM 77 14 e14 (HS.get 4 rfl) ag109 (extN _) (szN _) rfl rfl rfl rfl
  ·intro act u HB HO HA
   have e76 : _ = _ := qA HA 76
   have e77 : _ = _ := qA HA 77
   refine calm_call 78 #[.agg (lk .u64 (nL (a0 - b0))), .agg (lk .u64 (nL (va)))] rfl rfl ?_ (by kernel_rfl) (rmul_l (a0 - b0) va u) ?_ rfl
   ·simp only [mTx, mCx, mNx, e76, e77]
    try rfl
   rintro e u1 ⟨rfl, B1⟩
   exact ⟨_, rfl, by rw [eda.out]; rfl, B1⟩
  intro act u HB HO HA
  refine calm_new 19 (.cells ZRu64x16 109) rfl ?_ (obj_new _ u _ (Nat.le_trans (by exact Nat.le_refl _) HB.size))
  go_simp
 intro vT ww25 HB HF HN
 have f74 : _ = _ := qA HF 74
 have f75 : _ = _ := qA HF 75
 have f76 : _ = _ := qA HF 76
 have f77 : _ = _ := qA HF 77
 have f78 : _ = _ := qA HF 78
 obtain ⟨BDA, f19, q19, b19⟩ : (Fct.obj ww24.heap.size (.cells #[.int .u64 0, .int .u64 0, .int .u64 0, .int .u64 0, .int .u64 0, .int .u64 0, .int .u64 0, .int .u64 0, .int .u64 0, .int .u64 0, .int .u64 0, .int .u64 0, .int .u64 0, .int .u64 0, .int .u64 0, .int .u64 0] 109)).p (vT 19) ww25 := qA HF 19
 have HK25 := hDx (KS.grow1 HK24.out.drew HB ⟨q19, b19⟩)
 clear q19 b19
 simp only [fill, Act.put, sAx, s0x, s1x, dSx, d0x, f74, f75, f76, f77, f78, f19]
 clear HB HF HN f74 f75 f76 f77 f78 f19
 have FS := (HK25.out.rk 0 rfl (zi_len 16))
 go_upto_region 22 with (refine wpList_store_rk rfl _ _ rfl rfl rfl FS ty109 (nL_len _) ?_)
 obtain ⟨ww26, hv26⟩ := nm (World.setRow ww25 BDA (lk .u64 (nL (vda))))
 have HK26 : Hid (KS [(BDA, .cells (lk .u64 (nL (vda))) 109), (BE, .cells (lk .u64 (nL (ve))) 109), (BDD, .cells (lk .u64 (nL (vdd))) 109), (BD, .cells (lk .u64 (nL (vd))) 109), (BAA, .cells (lk .u64 (nL (vaa))) 109), (BA, .cells (lk .u64 (nL (va))) 109), (Z3, .cells (lk .u64 (nL (b0))) 109), (X3, .cells (lk .u64 (nL (a0))) 109), (Z2, .cells (lk .u64 (nL (b1))) 109), (X2, .cells (lk .u64 (nL (a1))) 109), (X1, .cells (lk .u64 (nL (U))) 109), (BB, bob ((bl u).set 31 (bits .and .u8 (ia (bl u) 31) 127)) zz)] [] w ww26) := by rw [hv26]; exact hDx (HK25.out.setRow 0 rfl _)
 rw [← hv26]
 clear hv26
 clear FS
 try simp only [Act.put, sAx, s0x, s1x]
 refine wp_region_calm 6 [79, 80, 81, 82, 83, 20] [20] [[], [], [79, 80], [], [81, 82], []] (Ftab [(79, .val (.agg (lk .u64 (nL (a0))))), (80, .val (.agg (lk .u64 (nL (b0))))), (81, .val (.agg (lk .u64 (nL (a0 + b0))))), (82, .val (.agg (lk .u64 (nL (vd))))), (83, .val (.agg (lk .u64 (nL (vcb))))), (20, .obj ww26.heap.size (.cells ZRu64x16 109))]) (by kernel_rfl) (by kernel_rfl) (by rfl) (by kernel_rfl) ?hO7 ?hE7
 case hO7 =>
  refine ⟨?_, ?_, ?_, ?_, ?_, ?_, trivial⟩
  ·intro act u HB HO HA
   have e10 : act.eval (.tmp 10) = .pointer (some ⟨X3, 0, none⟩) := HO 10 (by decide)
   have HS := HK26.out.drew.call HB
   exact calm_lM 79 10 e10 (HS.get 7 rfl) ag109 (extN _) (szN _) rfl rfl rfl rfl
  ·intro act u HB HO HA
   have e11 : act.eval (.tmp 11) = .pointer (some ⟨Z3, 0, none⟩) := HO 11 (by decide)
   have HS := HK26.out.drew.call HB
   exact calm_lM 80 11 e11 (HS.get 6 rfl) ag109 (extN _) (szN _) rfl rfl rfl rfl
  ·intro act u HB HO HA
   have e79 : _ = _ := qA HA 79
   have e80 : _ = _ := qA HA 80
   refine calm_call 81 #[.agg (lk .u64 (nL (a0))), .agg (lk .u64 (nL (b0)))] rfl rfl ?_ (by kernel_rfl) (radd_l a0 b0 u) ?_ rfl
   ·simp only [mTx, mCx, mNx, e79, e80]
    try rfl
   rintro e u1 ⟨rfl, B1⟩
   exact ⟨_, rfl, rfl, B1⟩
  ·intro act u HB HO HA
   have e16 : act.eval (.tmp 16) = .pointer (some ⟨BD, 0, none⟩) := HO 16 (by decide)
   have HS := HK26.out.drew.call HB
   exact calm_lM 82 16 e16 (HS.get 3 rfl) ag109 (extN _) (szN _) rfl rfl rfl rfl
  ·intro act u HB HO HA
   have e81 : _ = _ := qA HA 81
   have e82 : _ = _ := qA HA 82
   refine calm_call 83 #[.agg (lk .u64 (nL (a0 + b0))), .agg (lk .u64 (nL (vd)))] rfl rfl ?_ (by kernel_rfl) (rmul_l (a0 + b0) vd u) ?_ rfl
   ·simp only [mTx, mCx, mNx, e81, e82]
    try rfl
   rintro e u1 ⟨rfl, B1⟩
   exact ⟨_, rfl, by rw [ecb.out]; rfl, B1⟩
  intro act u HB HO HA
  refine calm_new 20 (.cells ZRu64x16 109) rfl ?_ (obj_new _ u _ (Nat.le_trans (by exact Nat.le_refl _) HB.size))
  go_simp
 intro vT ww27 HB HF HN
 have f79 : _ = _ := qA HF 79
 have f80 : _ = _ := qA HF 80
 have f81 : _ = _ := qA HF 81
 have f82 : _ = _ := qA HF 82
 have f83 : _ = _ := qA HF 83
 obtain ⟨BCB, f20, q20, b20⟩ : (Fct.obj ww26.heap.size (.cells #[.int .u64 0, .int .u64 0, .int .u64 0, .int .u64 0, .int .u64 0, .int .u64 0, .int .u64 0, .int .u64 0, .int .u64 0, .int .u64 0, .int .u64 0, .int .u64 0, .int .u64 0, .int .u64 0, .int .u64 0, .int .u64 0] 109)).p (vT 20) ww27 := qA HF 20
 have HK27 := hDx (KS.grow1 HK26.out.drew HB ⟨q20, b20⟩)
 clear q20 b20
 simp only [fill, Act.put, sAx, s0x, s1x, dSx, d0x, f79, f80, f81, f82, f83, f20]
 clear HB HF HN f79 f80 f81 f82 f83 f20
 have FS := (HK27.out.rk 0 rfl (zi_len 16))
 go_upto_region 23 with (refine wpList_store_rk rfl _ _ rfl rfl rfl FS ty109 (nL_len _) ?_)
 obtain ⟨ww28, hv28⟩ := nm (World.setRow ww27 BCB (lk .u64 (nL (vcb))))
 have HK28 : Hid (KS [(BCB, .cells (lk .u64 (nL (vcb))) 109), (BDA, .cells (lk .u64 (nL (vda))) 109), (BE, .cells (lk .u64 (nL (ve))) 109), (BDD, .cells (lk .u64 (nL (vdd))) 109), (BD, .cells (lk .u64 (nL (vd))) 109), (BAA, .cells (lk .u64 (nL (vaa))) 109), (BA, .cells (lk .u64 (nL (va))) 109), (Z3, .cells (lk .u64 (nL (b0))) 109), (X3, .cells (lk .u64 (nL (a0))) 109), (Z2, .cells (lk .u64 (nL (b1))) 109), (X2, .cells (lk .u64 (nL (a1))) 109), (X1, .cells (lk .u64 (nL (U))) 109), (BB, bob ((bl u).set 31 (bits .and .u8 (ia (bl u) 31) 127)) zz)] [] w ww28) := by rw [hv28]; exact hDx (HK27.out.setRow 0 rfl _)
 rw [← hv28]
 clear hv28
 clear FS
 have FBDA := (HK28.out.rk 1 rfl (nL_len _))
 have FBCB := (HK28.out.rk 0 rfl (nL_len _))
 go_wp2_with (first | (with_reducible show wpList _ _ _ _ _ _; refine wpList_load_rk (b := BDA) rfl _ rfl rfl FBDA ty109 ?_) | (with_reducible show wpList _ _ _ _ _ _; refine wpList_load_rk (b := BCB) rfl _ rfl rfl FBCB ty109 ?_))
 refine (radd_l (vda) (vcb) _).mono ?_
 rintro e ww29 ⟨rfl, B1⟩
 simp only []
 have HK29 := hDx (HK28.out.call B1)
 clear B1
 clear FBDA FBCB
 rw [← es.out]
 have FH30 := rk_new ww29 109 16 .u64 (zi 16) (zi_len 16)
 go_upto_region 24 with (refine wpList_store_rk rfl _ _ rfl rfl rfl FH30 ty109 (nL_len _) ?_)
 have hm30 := (HK29.out.made (.cells ZRu64x16 109)).setRow 0 rfl (lk .u64 (nL (vS2)))
 obtain ⟨BS, hgBS⟩ := nm ww29.heap.size
 obtain ⟨ww30, hv30⟩ := nm (World.setRow (World.alloc ww29 (.cells ZRu64x16 109)) ww29.heap.size (lk .u64 (nL (vS2))))
 rw [← hv30, ← hgBS] at hm30
 rw [← hv30]
 try rw [← hgBS]
 have HK30 : Hid (KS [(BS, .cells (lk .u64 (nL (vS2))) 109), (BCB, .cells (lk .u64 (nL (vcb))) 109), (BDA, .cells (lk .u64 (nL (vda))) 109), (BE, .cells (lk .u64 (nL (ve))) 109), (BDD, .cells (lk .u64 (nL (vdd))) 109), (BD, .cells (lk .u64 (nL (vd))) 109), (BAA, .cells (lk .u64 (nL (vaa))) 109), (BA, .cells (lk .u64 (nL (va))) 109), (Z3, .cells (lk .u64 (nL (b0))) 109), (X3, .cells (lk .u64 (nL (a0))) 109), (Z2, .cells (lk .u64 (nL (b1))) 109), (X2, .cells (lk .u64 (nL (a1))) 109), (X1, .cells (lk .u64 (nL (U))) 109), (BB, bob ((bl u).set 31 (bits .and .u8 (ia (bl u) 31) 127)) zz)] [] w ww30) := hDx hm30
 clear hm30 hv30 hgBS
 have FBS := (HK30.out.rk 0 rfl (nL_len _))
 go_wp2_with (first | (with_reducible show wpList _ _ _ _ _ _; refine wpList_load_rk (b := BS) rfl _ rfl rfl FBS ty109 ?_))
 refine (rmul_l (vS2) (vS2) _).mono ?_
 rintro e ww31 ⟨rfl, B1⟩
 simp only []
 have HK31 := hDx (HK30.out.call B1)
 clear B1
 clear FBS
 rw [← e3.out]
 have FS := (HK31.out.rk 9 rfl (nL_len _))
 go_upto_region 25 with (refine wpList_store_rk rfl _ _ rfl rfl rfl FS ty109 (nL_len _) ?_)
 obtain ⟨ww32, hv32⟩ := nm (World.setRow ww31 X3 (lk .u64 (nL (n3))))
 have HK32 : Hid (KS [(BS, .cells (lk .u64 (nL (vS2))) 109), (BCB, .cells (lk .u64 (nL (vcb))) 109), (BDA, .cells (lk .u64 (nL (vda))) 109), (BE, .cells (lk .u64 (nL (ve))) 109), (BDD, .cells (lk .u64 (nL (vdd))) 109), (BD, .cells (lk .u64 (nL (vd))) 109), (BAA, .cells (lk .u64 (nL (vaa))) 109), (BA, .cells (lk .u64 (nL (va))) 109), (Z3, .cells (lk .u64 (nL (b0))) 109), (X3, .cells (lk .u64 (nL (n3))) 109), (Z2, .cells (lk .u64 (nL (b1))) 109), (X2, .cells (lk .u64 (nL (a1))) 109), (X1, .cells (lk .u64 (nL (U))) 109), (BB, bob ((bl u).set 31 (bits .and .u8 (ia (bl u) 31) 127)) zz)] [] w ww32) := by rw [hv32]; exact hDx (HK31.out.setRow 9 rfl _)
 rw [← hv32]
 clear hv32
 clear FS
 have FBDA := (HK32.out.rk 2 rfl (nL_len _))
 have FBCB := (HK32.out.rk 1 rfl (nL_len _))
 go_wp2_with (first | (with_reducible show wpList _ _ _ _ _ _; refine wpList_load_rk (b := BDA) rfl _ rfl rfl FBDA ty109 ?_) | (with_reducible show wpList _ _ _ _ _ _; refine wpList_load_rk (b := BCB) rfl _ rfl rfl FBCB ty109 ?_))
 refine (rsub_l (vda) (vcb) _).mono ?_
 rintro e ww33 ⟨rfl, B1⟩
 simp only []
 have HK33 := hDx (HK32.out.call B1)
 clear B1
 clear FBDA FBCB
 rw [← et.out]
 have FH34 := rk_new ww33 109 16 .u64 (zi 16) (zi_len 16)
 go_upto_region 26 with (refine wpList_store_rk rfl _ _ rfl rfl rfl FH34 ty109 (nL_len _) ?_)
 have hm34 := (HK33.out.made (.cells ZRu64x16 109)).setRow 0 rfl (lk .u64 (nL (vt)))
 obtain ⟨BT, hgBT⟩ := nm ww33.heap.size
 obtain ⟨ww34, hv34⟩ := nm (World.setRow (World.alloc ww33 (.cells ZRu64x16 109)) ww33.heap.size (lk .u64 (nL (vt))))
 rw [← hv34, ← hgBT] at hm34
 rw [← hv34]
 try rw [← hgBT]
 have HK34 : Hid (KS [(BT, .cells (lk .u64 (nL (vt))) 109), (BS, .cells (lk .u64 (nL (vS2))) 109), (BCB, .cells (lk .u64 (nL (vcb))) 109), (BDA, .cells (lk .u64 (nL (vda))) 109), (BE, .cells (lk .u64 (nL (ve))) 109), (BDD, .cells (lk .u64 (nL (vdd))) 109), (BD, .cells (lk .u64 (nL (vd))) 109), (BAA, .cells (lk .u64 (nL (vaa))) 109), (BA, .cells (lk .u64 (nL (va))) 109), (Z3, .cells (lk .u64 (nL (b0))) 109), (X3, .cells (lk .u64 (nL (n3))) 109), (Z2, .cells (lk .u64 (nL (b1))) 109), (X2, .cells (lk .u64 (nL (a1))) 109), (X1, .cells (lk .u64 (nL (U))) 109), (BB, bob ((bl u).set 31 (bits .and .u8 (ia (bl u) 31) 127)) zz)] [] w ww34) := hDx hm34
 clear hm34 hv34 hgBT
 try simp only [Act.put, sAx, s0x, s1x]
 refine wp_region_cv 5 [93, 94, 95, 96, 97] [[], [], [], [94, 95], [93, 96]] [(93, .agg (lk .u64 (nL (U)))), (94, .agg (lk .u64 (nL (vt)))), (95, .agg (lk .u64 (nL (vt)))), (96, .agg (lk .u64 (nL (vt * vt)))), (97, .agg (lk .u64 (nL (m3))))] rfl (by kernel_rfl) (by kernel_rfl) (by rfl) (by kernel_rfl) ?hO8 ?hE8
 case hO8 =>
  refine ⟨?_, ?_, ?_, ?_, ?_, trivial⟩
  ·intro act u HB HO HA
   have e7 : act.eval (.tmp 7) = .pointer (some ⟨X1, 0, none⟩) := HO 7 (by decide)
   have HS := HK34.out.drew.call HB
   exact calm_lM 93 7 e7 (HS.get 13 rfl) ag109 (extN _) (szN _) rfl rfl rfl rfl
  ·intro act u HB HO HA
   have e22 : act.eval (.tmp 22) = .pointer (some ⟨BT, 0, none⟩) := HO 22 (by decide)
   have HS := HK34.out.drew.call HB
   exact calm_lM 94 22 e22 (HS.get 0 rfl) ag109 (extN _) (szN _) rfl rfl rfl rfl
  ·intro act u HB HO HA
   have e22 : act.eval (.tmp 22) = .pointer (some ⟨BT, 0, none⟩) := HO 22 (by decide)
   have HS := HK34.out.drew.call HB
   exact calm_lM 95 22 e22 (HS.get 0 rfl) ag109 (extN _) (szN _) rfl rfl rfl rfl
  ·intro act u HB HO HA
   have e94 : _ = _ := qA HA 94
   have e95 : _ = _ := qA HA 95
   refine calm_call 96 #[.agg (lk .u64 (nL (vt))), .agg (lk .u64 (nL (vt)))] rfl rfl ?_ (by kernel_rfl) (rmul_l vt vt u) ?_ rfl
   ·simp only [mTx, mCx, mNx, e94, e95]
    try rfl
   rintro e u1 ⟨rfl, B1⟩
   exact ⟨_, rfl, rfl, B1⟩
  intro act u HB HO HA
  have e93 : _ = _ := qA HA 93
  have e96 : _ = _ := qA HA 96
  refine calm_call 97 #[.agg (lk .u64 (nL (U))), .agg (lk .u64 (nL (vt * vt)))] rfl rfl ?_ (by kernel_rfl) (rmul_l U (vt * vt) u) ?_ rfl
  ·simp only [mTx, mCx, mNx, e93, e96]
   try rfl
  rintro e u1 ⟨rfl, B1⟩
  exact ⟨_, rfl, by rw [f3.out]; rfl, B1⟩
 intro ww35 HB
 have HK35 := hDx (HK34.out.drew.call HB)
 simp only [fillL, Act.put, sAx, s0x, s1x, dSx, d0x]
 clear HB
 have FS := (HK35.out.rk 9 rfl (nL_len _))
 go_upto_region 27 with (refine wpList_store_rk rfl _ _ rfl rfl rfl FS ty109 (nL_len _) ?_)
 obtain ⟨ww36, hv36⟩ := nm (World.setRow ww35 Z3 (lk .u64 (nL (m3))))
 have HK36 : Hid (KS [(BT, .cells (lk .u64 (nL (vt))) 109), (BS, .cells (lk .u64 (nL (vS2))) 109), (BCB, .cells (lk .u64 (nL (vcb))) 109), (BDA, .cells (lk .u64 (nL (vda))) 109), (BE, .cells (lk .u64 (nL (ve))) 109), (BDD, .cells (lk .u64 (nL (vdd))) 109), (BD, .cells (lk .u64 (nL (vd))) 109), (BAA, .cells (lk .u64 (nL (vaa))) 109), (BA, .cells (lk .u64 (nL (va))) 109), (Z3, .cells (lk .u64 (nL (m3))) 109), (X3, .cells (lk .u64 (nL (n3))) 109), (Z2, .cells (lk .u64 (nL (b1))) 109), (X2, .cells (lk .u64 (nL (a1))) 109), (X1, .cells (lk .u64 (nL (U))) 109), (BB, bob ((bl u).set 31 (bits .and .u8 (ia (bl u) 31) 127)) zz)] [] w ww36) := by rw [hv36]; exact hDx (HK35.out.setRow 9 rfl _)
 rw [← hv36]
 clear hv36
 clear FS
 have FBAA := (HK36.out.rk 7 rfl (nL_len _))
 have FBDD := (HK36.out.rk 5 rfl (nL_len _))
 go_wp2_with (first | (with_reducible show wpList _ _ _ _ _ _; refine wpList_load_rk (b := BAA) rfl _ rfl rfl FBAA ty109 ?_) | (with_reducible show wpList _ _ _ _ _ _; refine wpList_load_rk (b := BDD) rfl _ rfl rfl FBDD ty109 ?_))
 refine (rmul_l (vaa) (vdd) _).mono ?_
 rintro e ww37 ⟨rfl, B1⟩
 simp only []
 have HK37 := hDx (HK36.out.call B1)
 clear B1
 clear FBAA FBDD
 rw [← e2.out]
 have FS := (HK37.out.rk 12 rfl (nL_len _))
 go_upto_region 28 with (refine wpList_store_rk rfl _ _ rfl rfl rfl FS ty109 (nL_len _) ?_)
 obtain ⟨ww38, hv38⟩ := nm (World.setRow ww37 X2 (lk .u64 (nL (n2))))
 have HK38 : Hid (KS [(BT, .cells (lk .u64 (nL (vt))) 109), (BS, .cells (lk .u64 (nL (vS2))) 109), (BCB, .cells (lk .u64 (nL (vcb))) 109), (BDA, .cells (lk .u64 (nL (vda))) 109), (BE, .cells (lk .u64 (nL (ve))) 109), (BDD, .cells (lk .u64 (nL (vdd))) 109), (BD, .cells (lk .u64 (nL (vd))) 109), (BAA, .cells (lk .u64 (nL (vaa))) 109), (BA, .cells (lk .u64 (nL (va))) 109), (Z3, .cells (lk .u64 (nL (m3))) 109), (X3, .cells (lk .u64 (nL (n3))) 109), (Z2, .cells (lk .u64 (nL (b1))) 109), (X2, .cells (lk .u64 (nL (n2))) 109), (X1, .cells (lk .u64 (nL (U))) 109), (BB, bob ((bl u).set 31 (bits .and .u8 (ia (bl u) 31) 127)) zz)] [] w ww38) := by rw [hv38]; exact hDx (HK37.out.setRow 12 rfl _)
 rw [← hv38]
 clear hv38
 clear FS
 try simp only [Act.put, sAx, s0x, s1x]
 refine wp_region_cv 7 [101, 102, 103, 104, 105, 106, 107] [[], [], [], [], [103, 104], [102, 105], [101, 106]] [(101, .agg (lk .u64 (nL (ve)))), (102, .agg (lk .u64 (nL (vaa)))), (103, .agg (lk .u64 (nL (121665)))), (104, .agg (lk .u64 (nL (ve)))), (105, .agg (lk .u64 (nL (121665 * ve)))), (106, .agg (lk .u64 (nL (vaa + 121665 * ve)))), (107, .agg (lk .u64 (nL (m2))))] rfl (by kernel_rfl) (by kernel_rfl) (by rfl) (by kernel_rfl) ?hO9 ?hE9
 case hO9 =>
  refine ⟨?_, ?_, ?_, ?_, ?_, ?_, ?_, trivial⟩
  ·intro act u HB HO HA
   have e18 : act.eval (.tmp 18) = .pointer (some ⟨BE, 0, none⟩) := HO 18 (by decide)
   have HS := HK38.out.drew.call HB
   exact calm_lM 101 18 e18 (HS.get 4 rfl) ag109 (extN _) (szN _) rfl rfl rfl rfl
  ·intro act u HB HO HA
   have e15 : act.eval (.tmp 15) = .pointer (some ⟨BAA, 0, none⟩) := HO 15 (by decide)
   have HS := HK38.out.drew.call HB
   exact calm_lM 102 15 e15 (HS.get 7 rfl) ag109 (extN _) (szN _) rfl rfl rfl rfl
  ·intro act u HB HO HA
   refine calm_call 103 #[.int .u32 121665] rfl rfl ?_ (by kernel_rfl) (r121_l u) ?_ rfl
   ·simp only [mTx, mCx, mNx]
    try rfl
   rintro e u1 ⟨rfl, B1⟩
   exact ⟨_, rfl, rfl, B1⟩
  ·intro act u HB HO HA
   have e18 : act.eval (.tmp 18) = .pointer (some ⟨BE, 0, none⟩) := HO 18 (by decide)
   have HS := HK38.out.drew.call HB
   exact calm_lM 104 18 e18 (HS.get 4 rfl) ag109 (extN _) (szN _) rfl rfl rfl rfl
  ·intro act u HB HO HA
   have e103 : _ = _ := qA HA 103
   have e104 : _ = _ := qA HA 104
   refine calm_call 105 #[.agg (lk .u64 (nL (121665))), .agg (lk .u64 (nL (ve)))] rfl rfl ?_ (by kernel_rfl) (rmul_l 121665 ve u) ?_ rfl
   ·simp only [mTx, mCx, mNx, e103, e104]
    try rfl
   rintro e u1 ⟨rfl, B1⟩
   exact ⟨_, rfl, rfl, B1⟩
  ·intro act u HB HO HA
   have e102 : _ = _ := qA HA 102
   have e105 : _ = _ := qA HA 105
   refine calm_call 106 #[.agg (lk .u64 (nL (vaa))), .agg (lk .u64 (nL (121665 * ve)))] rfl rfl ?_ (by kernel_rfl) (radd_l vaa (121665 * ve) u) ?_ rfl
   ·simp only [mTx, mCx, mNx, e102, e105]
    try rfl
   rintro e u1 ⟨rfl, B1⟩
   exact ⟨_, rfl, rfl, B1⟩
  intro act u HB HO HA
  have e101 : _ = _ := qA HA 101
  have e106 : _ = _ := qA HA 106
  refine calm_call 107 #[.agg (lk .u64 (nL (ve))), .agg (lk .u64 (nL (vaa + 121665 * ve)))] rfl rfl ?_ (by kernel_rfl) (rmul_l ve (vaa + 121665 * ve) u) ?_ rfl
  ·simp only [mTx, mCx, mNx, e101, e106]
   try rfl
  rintro e u1 ⟨rfl, B1⟩
  exact ⟨_, rfl, by rw [f2.out]; rfl, B1⟩
 intro ww39 HB
 have HK39 := hDx (HK38.out.drew.call HB)
 simp only [fillL, Act.put, sAx, s0x, s1x, dSx, d0x]
 clear HB
 have FS := (HK39.out.rk 11 rfl (nL_len _))
 go_upto_region 29 with (refine wpList_store_rk rfl _ _ rfl rfl rfl FS ty109 (nL_len _) ?_)
 obtain ⟨ww40, hv40⟩ := nm (World.setRow ww39 Z2 (lk .u64 (nL (m2))))
 have HK40 : Hid (KS [(BT, .cells (lk .u64 (nL (vt))) 109), (BS, .cells (lk .u64 (nL (vS2))) 109), (BCB, .cells (lk .u64 (nL (vcb))) 109), (BDA, .cells (lk .u64 (nL (vda))) 109), (BE, .cells (lk .u64 (nL (ve))) 109), (BDD, .cells (lk .u64 (nL (vdd))) 109), (BD, .cells (lk .u64 (nL (vd))) 109), (BAA, .cells (lk .u64 (nL (vaa))) 109), (BA, .cells (lk .u64 (nL (va))) 109), (Z3, .cells (lk .u64 (nL (m3))) 109), (X3, .cells (lk .u64 (nL (n3))) 109), (Z2, .cells (lk .u64 (nL (m2))) 109), (X2, .cells (lk .u64 (nL (n2))) 109), (X1, .cells (lk .u64 (nL (U))) 109), (BB, bob ((bl u).set 31 (bits .and .u8 (ia (bl u) 31) 127)) zz)] [] w ww40) := by rw [hv40]; exact hDx (HK39.out.setRow 11 rfl _)
 rw [← hv40]
 clear hv40
 clear FS
 go_upto_region 30 with fail
 have FX2 := (HK40.out.rk 12 rfl (nL_len _))
 have FX3 := (HK40.out.rk 10 rfl (nL_len _))
 have K2 := HK40.out.setRow 12 rfl (lk .u64 (nL (n3)))
 go_upto_region 31 with (first | (with_reducible show wpList _ _ _ _ _ _; have S0 := FX2; clear S0; refine wpList_load_rk (b := X2) rfl _ rfl rfl FX2 ty109 ?_) | (with_reducible show wpList _ _ _ _ _ _; have S0 := FX3; clear S0; refine wpList_load_rk (b := X3) rfl _ rfl rfl FX3 ty109 ?_) | (with_reducible show wpList _ _ _ _ _ _; have S0 := FX2; clear S0; refine wpList_store_rk (b := X2) (u := nL (n3)) rfl _ _ rfl rfl rfl FX2 ty109 (nL_len _) ?_; obtain ⟨wA, hwA⟩ : ∃ wX, wX = World.setRow ww40 X2 (lk .u64 (nL (n3))) := ⟨_, rfl⟩; rw [← hwA] at K2; rw [← hwA]; clear FX2 FX3 hwA; have GX3 := K2.rk 10 rfl (nL_len (n3))) | (with_reducible show wpList _ _ _ _ _ _; have S0 := GX3; clear S0; refine wpList_store_rk (b := X3) (u := nL (n2)) rfl _ _ rfl rfl rfl GX3 ty109 (nL_len _) ?_; have K3 := K2.setRow 10 rfl (lk .u64 (nL (n2))); obtain ⟨wB, hwB⟩ : ∃ wX, wX = World.setRow wA X3 (lk .u64 (nL (n2))) := ⟨_, rfl⟩; rw [← hwB] at K3; rw [← hwB]; clear GX3 hwB))
 obtain ⟨ww41, hw41⟩ := nm wB
 rw [← hw41] at K3
 rw [← hw41]
 have HK41 : Hid (KS [(BT, .cells (lk .u64 (nL (vt))) 109), (BS, .cells (lk .u64 (nL (vS2))) 109), (BCB, .cells (lk .u64 (nL (vcb))) 109), (BDA, .cells (lk .u64 (nL (vda))) 109), (BE, .cells (lk .u64 (nL (ve))) 109), (BDD, .cells (lk .u64 (nL (vdd))) 109), (BD, .cells (lk .u64 (nL (vd))) 109), (BAA, .cells (lk .u64 (nL (vaa))) 109), (BA, .cells (lk .u64 (nL (va))) 109), (Z3, .cells (lk .u64 (nL (m3))) 109), (X3, .cells (lk .u64 (nL (n2))) 109), (Z2, .cells (lk .u64 (nL (m2))) 109), (X2, .cells (lk .u64 (nL (n3))) 109), (X1, .cells (lk .u64 (nL (U))) 109), (BB, bob ((bl u).set 31 (bits .and .u8 (ia (bl u) 31) 127)) zz)] [] w ww41) := hDx K3
 clear K2 K3 hw41
 have FZ2 := (HK41.out.rk 11 rfl (nL_len _))
 have FZ3 := (HK41.out.rk 9 rfl (nL_len _))
 have K2 := HK41.out.setRow 11 rfl (lk .u64 (nL (m3)))
 go_upto_region 11 with (first | (with_reducible show wpList _ _ _ _ _ _; have S0 := FZ2; clear S0; refine wpList_load_rk (b := Z2) rfl _ rfl rfl FZ2 ty109 ?_) | (with_reducible show wpList _ _ _ _ _ _; have S0 := FZ3; clear S0; refine wpList_load_rk (b := Z3) rfl _ rfl rfl FZ3 ty109 ?_) | (with_reducible show wpList _ _ _ _ _ _; have S0 := FZ2; clear S0; refine wpList_store_rk (b := Z2) (u := nL (m3)) rfl _ _ rfl rfl rfl FZ2 ty109 (nL_len _) ?_; obtain ⟨wA, hwA⟩ : ∃ wX, wX = World.setRow ww41 Z2 (lk .u64 (nL (m3))) := ⟨_, rfl⟩; rw [← hwA] at K2; rw [← hwA]; clear FZ2 FZ3 hwA; have GZ3 := K2.rk 9 rfl (nL_len (m3))) | (with_reducible show wpList _ _ _ _ _ _; have S0 := GZ3; clear S0; refine wpList_store_rk (b := Z3) (u := nL (m2)) rfl _ _ rfl rfl rfl GZ3 ty109 (nL_len _) ?_; have K3 := K2.setRow 9 rfl (lk .u64 (nL (m2))); obtain ⟨wB, hwB⟩ : ∃ wX, wX = World.setRow wA Z3 (lk .u64 (nL (m2))) := ⟨_, rfl⟩; rw [← hwB] at K3; rw [← hwB]; clear GZ3 hwB))
 obtain ⟨ww42, hw42⟩ := nm wB
 rw [← hw42] at K3
 rw [← hw42]
 have HK42 : Hid (KS [(BT, .cells (lk .u64 (nL (vt))) 109), (BS, .cells (lk .u64 (nL (vS2))) 109), (BCB, .cells (lk .u64 (nL (vcb))) 109), (BDA, .cells (lk .u64 (nL (vda))) 109), (BE, .cells (lk .u64 (nL (ve))) 109), (BDD, .cells (lk .u64 (nL (vdd))) 109), (BD, .cells (lk .u64 (nL (vd))) 109), (BAA, .cells (lk .u64 (nL (vaa))) 109), (BA, .cells (lk .u64 (nL (va))) 109), (Z3, .cells (lk .u64 (nL (m2))) 109), (X3, .cells (lk .u64 (nL (n2))) 109), (Z2, .cells (lk .u64 (nL (m3))) 109), (X2, .cells (lk .u64 (nL (n3))) 109), (X1, .cells (lk .u64 (nL (U))) 109), (BB, bob ((bl u).set 31 (bits .and .u8 (ia (bl u) 31) 127)) zz)] [] w ww42) := hDx K3
 clear K2 K3 hw42
 go_wp2_with fail
 go_roundw
 case rel =>
  refine ⟨m, stepL U true ⟨a0, b0, a1, b1⟩, hj2.out, rfl, by rw [← runL_t U K m ⟨a0, b0, a1, b1⟩ hk]; exact hS.out, ?_⟩
  have q2 : stepL U true ⟨a0, b0, a1, b1⟩ = ⟨n3, m3, n2, m2⟩ := by
   rw [f3.out, e3.out, f2.out, e2.out, et.out, es.out, ecb.out, eda.out, ee.out, edd.out, ed.out, eaa.out, ea.out]
   rfl
  rw [q2]
  exact HK42.out.tail.tail.tail.tail.tail.tail.tail.tail.tail
 exact measD m
end
section
open Go.RowKit T
theorem rpublic_any (s : ByteArray) (hs : s.size = 32) (w : World) : Calls Tryz.prog 15 #[.string s] w fun e w' => e = .returned (.tuple #[.string (pubS s), .int .i64 0]) ∧ Below w.heap.size w w' := by
 have h33 : (s.size : Int) = 32 := by omega
 have HS := hDx hs
 clear hs
 have hmk := fun w => make_u8 32 (by decide) w
 simp only [Int.cast_ofNat_Int] at hmk
 unfold pubS
 go_enter Tryz.func15, Tryz.ntmps15
 have HK0 := hDx (KS.start w)
 go_upto_region 4 with (fail)
 have hm1 := (HK0.out.made (.cells (lk .u8 (zi 32)) 5))
 obtain ⟨A, hgA⟩ := nm w.heap.size
 obtain ⟨ww1, hv1⟩ := nm (World.alloc w (.cells (lk .u8 (zi 32)) 5))
 rw [← hv1, ← hgA] at hm1
 rw [← hv1]
 try rw [← hgA]
 have HK1 : Hid (KS [(A, .cells (lk .u8 (zi 32)) 5)] [] w ww1) := hDx hm1
 clear hm1 hv1 hgA
 clear hmk
 have c0 := (HK1.out.rk 0 rfl (zi_len 32)).cell 0 (by decide)
 have z0 := (HK1.out.rk 0 rfl (zi_len 32)).fz
 go_upto_region 5 with fail
 obtain ⟨ww2, hv2⟩ := nm (World.setCell ww1 ⟨A, 0, none⟩ (.int .u8 (9)))
 have HK2 : Hid (KS [(A, .cells (lk .u8 ((zi 32).set 0 9)) 5)] [] w ww2) := by rw [hv2]; exact hDx (HK1.out.setK 0 rfl 0 (9))
 rw [← hv2]
 clear hv2
 clear c0 z0
 have hcv := (HK2.out.rk 0 rfl (show ((zi 32).set 0 (9 : Int)).length = 32 by rw [List.length_set, zi_len])).conv 32
 rw [show strOfNums ((zi 32).set 0 9) = nineS from rfl] at hcv
 go_wp2_with fail
 refine (rladder_any s nineS HS.out nineS_size _).mono ?_
 rintro e ww3 ⟨rfl, B1⟩
 simp only []
 have HK3 := hDx (HK2.out.call B1)
 clear B1
 go_wp2_with fail
 go_ret2
 exact ⟨rfl, HK3.out.below⟩
end
end Go.Proofs.YtoplbfijodebmaaGreatDoor
