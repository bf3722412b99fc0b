/-
  The walk.
-/
import Derived.Test.YtoplbfijodebmaaGreatDoorM28CA
import Derived.Test.YtoplbfijodebmaaGreatDoorM23Mont
set_option linter.unusedVariables false
set_option linter.unusedSimpArgs false
set_option maxRecDepth 100000
set_option maxHeartbeats 40000000
namespace Go.Proofs.YtoplbfijodebmaaGreatDoor
section
open Go.RowKit T
theorem ty186 : RowTy 186 16 := ⟨⟨79, by kernel_rfl⟩, by kernel_rfl⟩
theorem ty154 : RowTy 154 64 := ⟨⟨5, by kernel_rfl⟩, by kernel_rfl⟩
theorem oK_all (x y : Nat → Nat) : rw_ 64 (oK x y 64) = rw_ 64 (oB x y) := rw_ext fun j hj => by unfold oK; rw [if_pos hj]
theorem oK_zero (x y : Nat → Nat) : rw_ 64 (oK x y 0) = rw_ 64 (fun _ => 0) := rw_ext fun j hj => by unfold oK; rw [if_neg (by omega)]
theorem wStep (S : ByteArray) (i q m e : Nat) (hq : q = i / 4) (hm : i = 4 * q + m) (h4 : m < 4) (he : e = 8 * m) : ∃ z A1 : Nat, Op.shift .shl .u32 (bt S i : Int) .u64 (e : Int) = pure (.int .u32 (z : Int)) ∧ bits .or .u32 (wW S i q : Int) (z : Int) = (A1 : Int) ∧ rw_ 16 (wW S (i + 1)) = (rw_ 16 (wW S i)).set q (A1 : Int) := by
 obtain ⟨h1, h2⟩ := wW_or S q m h4
 rw [← hm] at h1 h2
 refine ⟨bt S i * 2 ^ (8 * m), wW S (i + 1) q, by rw [he]; exact shl32 _ _ _ (by omega) rfl h2, ?_, ?_⟩
 ·rw [or32 _ _ (wW_w S i q) h2, h1]
 rw [rw_set, wW_upd S i q hq.symm]
theorem oStep (x y : Nat → Nat) (i q m e : Nat) (hi : i < 64) (hq : q = i / 4) (hm : m = i % 4) (h4 : m < 4) (he : e = 8 * m) : ∃ s z o : Nat, IntKind.u32.wrap ((x q : Int) + (y q : Int)) = s ∧ Op.shift .shr .u32 (s : Int) .u64 (e : Int) = pure (.int .u32 (z : Int)) ∧ IntKind.u8.wrap (z : Int) = o ∧ rw_ 64 (oK x y (i + 1)) = (rw_ 64 (oK x y i)).set i (o : Int) := by
 refine ⟨add32 (x q) (y q), add32 (x q) (y q) / 2 ^ e, oB x y i, ?_, shr32 _ _ _ (by omega) rfl, ?_, ?_⟩
 ·rw [IntKind.wrap_u32']; exact add_two _ _
 ·rw [u8wm, oB, hq, he, hm]
 rw [rw_set, oK_upd]
theorem block_any (key nonce : ByteArray) (n : Nat) (w : World) (h32 : key.size = 32) (h12 : nonce.size = 12) (hn : n < 4294967296) :
  Calls Tryz.prog 91 #[.string key, .string nonce, .int .u32 (n : Int)] w fun e w' => e = .returned (.agg (lk .u8 (rw_ 64 (blkF (allS key nonce n))))) ∧ Below w.heap.size w w' := by
 obtain ⟨S, hS⟩ := nm (allS key nonce n)
 have hS64 : S.size = 64 := by rw [hS]; exact allS_size n h32 h12
 have hSi : (S.size : Int) = 64 := by omega
 obtain ⟨NB, hNB⟩ := nm (strOfNums (numL n))
 have hNs : NB.size = 4 := by rw [hNB, sb_size]; rfl
 have hgs : sigS.size = 16 := rfl
 obtain ⟨S1, hS1⟩ := nm (sigS ++ key)
 obtain ⟨S2, hS2⟩ := nm (S1 ++ NB)
 have hz1 : S1.size = 48 := by rw [hS1, ByteArray.size_append, hgs, h32]
 have hz2 : S2.size = 52 := by rw [hS2, ByteArray.size_append, hz1, hNs]
 have hSS : S2 ++ nonce = S := by rw [hS2, hS1, hS, hNB]; rfl
 have ct1 := addS sigS key (by rw [hgs, h32]; decide)
 have ct2 := addS S1 NB (by rw [hz1, hNs]; decide)
 have ct3 := addS S2 nonce (by rw [hz2, h12]; decide)
 rw [← hS1] at ct1
 rw [← hS2] at ct2
 rw [hSS] at ct3
 replace ct1 : ∀ u, (Op.stringOp .add { data := #[101, 120, 112, 97, 110, 100, 32, 51, 50, 45, 98, 121, 116, 101, 32, 107] } key).run Tryz.prog u = .ok (.string S1) u := ct1
 clear hNs hgs hS1 hS2 hz1 hz2 hSS
 rw [← hS]
 obtain ⟨b0, b1, b2, b3, m1, m2, m3, hL, n0, n1, n2, n3, n4, n5, n6⟩ := num_i n hn
 have hcv := fun u => (rk_new u 5 4 .u8 (numL n) rfl).conv 4
 rw [← hNB, hL] at hcv
 replace hcv : ∀ u : World, (convert 52 9 (.slice (some ⟨u.heap.size, 0, none⟩) 4 4)).run Tryz.prog (u.alloc (.cells #[.int .u8 (b0 : Int), .int .u8 (b1 : Int), .int .u8 (b2 : Int), .int .u8 (b3 : Int)] 5)) = .ok (.string NB) (u.alloc (.cells #[.int .u8 (b0 : Int), .int .u8 (b1 : Int), .int .u8 (b2 : Int), .int .u8 (b3 : Int)] 5)) := hcv
 have HS := hDx (And.intro hS hS64)
 clear hS hNB hL hn h32 h12 hS64
 go_enter Tryz.func91, Tryz.ntmps91
 have HK0 := hDx (KS.start w)
 go_upto_region 2 with (fail)
 have hm1 := ((HK0.out.made (.cells ZRu8x64 154)).made (.cells ZRu32x16 186))
 try rw [show ((World.alloc w (.cells ZRu8x64 154))).heap.size = w.heap.size + 1 by simp] at hm1
 obtain ⟨X, hgX⟩ := nm (w.heap.size + 1)
 obtain ⟨R, hgR⟩ := nm w.heap.size
 obtain ⟨ww1, hv1⟩ := nm (World.alloc (World.alloc w (.cells ZRu8x64 154)) (.cells ZRu32x16 186))
 rw [← hv1, ← hgX, ← hgR] at hm1
 rw [← hv1]
 try rw [← hgX]
 try rw [← hgR]
 have HK1 : Hid (KS [(X, .cells (lk .u32 (rw_ 16 (fun _ => 0))) 186), (R, .cells (lk .u8 (zi 64)) 154)] [] w ww1) := hDx hm1
 clear hm1 hv1 hgR hgX
 go_upto_region 3 with fail
 have hm2 := (HK1.out.made (.cells #[.int .u8 (b0 : Int), .int .u8 (b1 : Int), .int .u8 (b2 : Int), .int .u8 (b3 : Int)] 5))
 obtain ⟨NBB, hgNBB⟩ := nm ww1.heap.size
 obtain ⟨ww2, hv2⟩ := nm (World.alloc ww1 (.cells #[.int .u8 (b0 : Int), .int .u8 (b1 : Int), .int .u8 (b2 : Int), .int .u8 (b3 : Int)] 5))
 rw [← hv2, ← hgNBB] at hm2
 rw [← hv2]
 try rw [← hgNBB]
 have HK2 : Hid (KS [(NBB, .cells #[.int .u8 (b0 : Int), .int .u8 (b1 : Int), .int .u8 (b2 : Int), .int .u8 (b3 : Int)] 5), (X, .cells (lk .u32 (rw_ 16 (fun _ => 0))) 186), (R, .cells (lk .u8 (zi 64)) 154)] [] w ww2) := hDx hm2
 clear hm2 hv2 hgNBB
 clear hcv n0 n1 n2 n3 n4 n5 n6 ct1 ct2 ct3
 rw [← wW_zero S] at HK2
 go_upto_region 4 with fail
 go_loopw [35] (fun vS wr => ∃ i : Nat, i ≤ 64 ∧ vS = .int .i64 (i : Int) ∧ KS [(NBB, .cells #[.int .u8 (b0 : Int), .int .u8 (b1 : Int), .int .u8 (b2 : Int), .int .u8 (b3 : Int)] 5), (X, .cells (lk .u32 (rw_ 16 (wW S i))) 186), (R, .cells (lk .u8 (zi 64)) 154)] [] w wr) (fun vS _ => 64 - (intOf vS).toNat)
 case atStart => exact ⟨0, Nat.zero_le _, rfl, HK2.out⟩
 case round =>
  obtain ⟨i, hi, rfl, HK⟩ := hrel
  have HK3 := hDx HK
  clear HK
  by_cases hlt : i < 64
  ·have hi1 : (0 : Int) ≤ i := by omega
   have hi2 : (i : Int) < 64 := by omega
   obtain ⟨hi3, hi4⟩ := i64w (x := (i : Int) + 1) (n := i + 1) (by omega) (by omega)
   obtain ⟨q, m, e, hq, hm, him, h4, hq16, hq0, hq1, hquo, hrem, he, he1, he2, he3, he4⟩ := div4_i i hlt
   obtain ⟨zz, A1, hsh, hor, es⟩ := wStep S i q m e hq him h4 he
   have hbt := bt32 S i
   have ks := fun u => idxS (s := S) (k := i) (by have := HS.out.2; omega) u
   obtain ⟨bb, hbb⟩ := nm (bt S i)
   rw [← hbb] at hsh hbt ks
   have a0 : ia (rw_ 16 (wW S i)) q = (wW S i q : Int) := rw_at' _ _ _ hq16
   obtain ⟨A0, hA0⟩ := nm (wW S i q)
   rw [← hA0] at a0 hor
   obtain ⟨V, hV⟩ := nm (rw_ 16 (wW S i))
   have lV : V.length = 16 := by rw [hV, rw_len']
   rw [← hV] at HK3
   rw [← hV] at a0 es
   replace es := hDx es
   replace hlt := hDx hlt
   clear hV hA0 hbb hq hm him h4 he he4
   go_upto_region 6 with fail
   try simp only [Act.put, sAx, s0x, s1x]
   refine wp_region_cv 14 [38, 39, 40, 41, 42, 43, 44, 45, 46, 47, 48, 49, 50, 51] [[], [38], [39], [40], [], [], [42, 43], [44], [], [46], [47], [48], [45, 49], [41, 50]] [(38, .int .i64 (i : Int)), (39, .int .i64 (q : Int)), (40, .pointer (some ⟨X, q, none⟩)), (41, .int .u32 (A0 : Int)), (42, .string S), (43, .int .i64 (i : Int)), (44, .int .u8 (bb : Int)), (45, .int .u32 (bb : Int)), (46, .int .i64 (i : Int)), (47, .int .i64 (m : Int)), (48, .int .i64 (e : Int)), (49, .int .u64 (e : Int)), (50, .int .u32 (zz : Int)), (51, .int .u32 (A1 : Int))] rfl (by kernel_rfl) (by kernel_rfl) (by rfl) (by kernel_rfl) ?hO1 ?hE1
   case hO1 =>
    refine ⟨?_, ?_, ?_, ?_, ?_, ?_, ?_, ?_, ?_, ?_, ?_, ?_, ?_, ?_, trivial⟩
    ·intro act u HB HO HA
     have e9 := gE (x := .int .i64 (i : Int)) (HO 9 (by decide))
     refine calm_val 38 _ rfl ?_ rfl rfl
     clear HB HO HA
     go_simp
     try rfl
    ·intro act u HB HO HA
     have e38 : _ = _ := qA HA 38
     exact calm_val 39 _ rfl (run_bin rfl e38 rfl hquo) rfl rfl
    ·intro act u HB HO HA
     have e7 := gE (x := .pointer (some ⟨X, 0, none⟩)) (HO 7 (by decide))
     have e39 : _ = _ := gE (qA HA 39)
     refine calm_val 40 _ rfl ?_ rfl rfl
     clear HB HO HA
     go_simp
     try rfl
    ·intro act u HB HO HA
     have e40 : _ = _ := gE (qA HA 40)
     have HS := HK3.out.drew.call HB
     have lT : u.cell? ⟨X, q, none⟩ = some (.int .u32 (A0 : Int)) := by
      have q := (HS.rk 1 rfl lV).cell q hq16
      rw [a0] at q
      exact q
     refine calm_val 41 _ rfl ?_ rfl rfl
     clear HB HO HA HS
     go_simp
     try rfl
    ·intro act u HB HO HA
     have e8 := gE (x := .string S) (HO 8 (by decide))
     refine calm_val 42 _ rfl ?_ rfl rfl
     clear HB HO HA
     go_simp
     try rfl
    ·intro act u HB HO HA
     have e9 := gE (x := .int .i64 (i : Int)) (HO 9 (by decide))
     refine calm_val 43 _ rfl ?_ rfl rfl
     clear HB HO HA
     go_simp
     try rfl
    ·intro act u HB HO HA
     have e42 : _ = _ := gE (qA HA 42)
     have e43 : _ = _ := gE (qA HA 43)
     have ks2 := ks u
     refine calm_val 44 _ rfl ?_ rfl rfl
     clear HB HO HA
     go_simp
     try rfl
    ·intro act u HB HO HA
     have e44 : _ = _ := gE (qA HA 44)
     refine calm_val 45 _ rfl ?_ rfl rfl
     clear HB HO HA
     go_simp
     try rfl
    ·intro act u HB HO HA
     have e9 := gE (x := .int .i64 (i : Int)) (HO 9 (by decide))
     refine calm_val 46 _ rfl ?_ rfl rfl
     clear HB HO HA
     go_simp
     try rfl
    ·intro act u HB HO HA
     have e46 : _ = _ := qA HA 46
     exact calm_val 47 _ rfl (run_bin rfl e46 rfl hrem) rfl rfl
    ·intro act u HB HO HA
     have e47 : _ = _ := gE (qA HA 47)
     refine calm_val 48 _ rfl ?_ rfl rfl
     clear HB HO HA
     go_simp
     try rfl
    ·intro act u HB HO HA
     have e48 : _ = _ := gE (qA HA 48)
     refine calm_val 49 _ rfl ?_ rfl rfl
     clear HB HO HA
     go_simp
     try rfl
    ·intro act u HB HO HA
     have e45 : _ = _ := qA HA 45
     have e49 : _ = _ := qA HA 49
     exact calm_val 50 _ rfl (run_shift rfl e45 e49 (Or.inr rfl) hsh) rfl rfl
    intro act u HB HO HA
    have e41 : _ = _ := gE (qA HA 41)
    have e50 : _ = _ := gE (qA HA 50)
    refine calm_val 51 _ rfl ?_ rfl rfl
    clear HB HO HA
    go_simp
    try rfl
   intro ww4 HB
   have HK4 := hDx (HK3.out.drew.call HB)
   simp only [fillL, Act.put, sAx, s0x, s1x, dSx, d0x]
   clear HB
   clear hsh hor hbt ks a0 hquo hrem he1 he2 he3
   have z0 := (HK4.out.rk 1 rfl lV).fz
   have c0 := (HK4.out.rk 1 rfl lV).cell q hq16
   go_upto_region 7 with fail
   obtain ⟨ww5, hv5⟩ := nm (World.setCell ww4 ⟨X, q, none⟩ (.int .u32 ((A1 : Int))))
   have HK5 : Hid (KS [(NBB, .cells #[.int .u8 (b0 : Int), .int .u8 (b1 : Int), .int .u8 (b2 : Int), .int .u8 (b3 : Int)] 5), (X, .cells (lk .u32 (V.set q (A1 : Int))) 186), (R, .cells (lk .u8 (zi 64)) 154)] [] w ww5) := by rw [hv5]; exact hDx (HK4.out.setK 1 rfl q ((A1 : Int)))
   rw [← hv5]
   clear hv5
   rw [← es.out] at HK5
   clear es lV z0 c0
   go_wp2_with fail
   go_roundw
   case rel =>
    exact ⟨i + 1, hlt.out, by first | rfl | go_num, HK5.out⟩
   exact measI 64 _ hlt.out
  obtain rfl : i = 64 := by omega
  try simp only [Int.cast_ofNat_Int]
  have hWw := wW_w S 64
  obtain ⟨Wf, hWf⟩ := nm (wW S 64)
  rw [← hWf] at hWw HK3
  replace hWf := hDx hWf
  replace hWw := hDx hWw
  have FX := (HK3.out.rk 1 rfl (rw_len' _ _))
  have FH4 := rk_new wr 186 16 .u32 (zi 16) (zi_len 16)
  go_upto_region 9 with (first | (with_reducible show wpList _ _ _ _ _ _; refine wpList_load_rk rfl _ rfl rfl FX ty186 ?_) | (refine wpList_store_rk rfl _ _ rfl rfl rfl FH4 ty186 (rw_len' _ _) ?_))
  have hm4 := (HK3.out.made (.cells ZRu32x16 186)).setRow 0 rfl (lk .u32 (rw_ 16 Wf))
  obtain ⟨Y, hgY⟩ := nm wr.heap.size
  obtain ⟨ww4, hv4⟩ := nm (World.setRow (World.alloc wr (.cells ZRu32x16 186)) wr.heap.size (lk .u32 (rw_ 16 Wf)))
  rw [← hv4, ← hgY] at hm4
  rw [← hv4]
  try rw [← hgY]
  have HK4 : Hid (KS [(Y, .cells (lk .u32 (rw_ 16 Wf)) 186), (NBB, .cells #[.int .u8 (b0 : Int), .int .u8 (b1 : Int), .int .u8 (b2 : Int), .int .u8 (b3 : Int)] 5), (X, .cells (lk .u32 (rw_ 16 Wf)) 186), (R, .cells (lk .u8 (zi 64)) 154)] [] w ww4) := hDx hm4
  clear hm4 hv4 hgY
  clear FX
  go_upto_region 10 with fail
  go_loopw [55] (fun vS wr => ∃ r : Nat, r ≤ 10 ∧ vS = .int .i64 (r : Int) ∧ KS [(Y, .cells (lk .u32 (rw_ 16 (drn Wf r))) 186), (NBB, .cells #[.int .u8 (b0 : Int), .int .u8 (b1 : Int), .int .u8 (b2 : Int), .int .u8 (b3 : Int)] 5), (X, .cells (lk .u32 (rw_ 16 Wf)) 186), (R, .cells (lk .u8 (zi 64)) 154)] [] w wr) (fun vS _ => 10 - (intOf vS).toNat)
  case atStart => exact ⟨0, Nat.zero_le _, rfl, HK4.out⟩
  case round =>
   obtain ⟨r, hr, rfl, HK⟩ := hrel
   have HK5 := hDx HK
   clear HK
   by_cases hlt : r < 10
   ·have hr1 : (0 : Int) ≤ r := by omega
    have hr2 : (r : Int) < 10 := by omega
    obtain ⟨hr3, hr4⟩ := i64w (x := (r : Int) + 1) (n := r + 1) (by omega) (by omega)
    obtain ⟨D, hD⟩ := nm (drn Wf r)
    have hDw : W32 D := by rw [hD]; exact drn_w hWw.out r
    have hS1 : drn Wf (r + 1) = dr D := by rw [hD]; rfl
    rw [← hD] at HK5
    replace hDw := hDx hDw
    replace hS1 := hDx hS1
    have hR := hDx hlt
    clear hD hlt
    go_upto_region 12 with fail
    go_loopw [57] (fun vS wr => ∃ k : Nat, k ≤ 4 ∧ vS = .int .i64 (k : Int) ∧ KS [(Y, .cells (lk .u32 (rw_ 16 (i1 D k))) 186), (NBB, .cells #[.int .u8 (b0 : Int), .int .u8 (b1 : Int), .int .u8 (b2 : Int), .int .u8 (b3 : Int)] 5), (X, .cells (lk .u32 (rw_ 16 Wf)) 186), (R, .cells (lk .u8 (zi 64)) 154)] [] w wr) (fun vS _ => 4 - (intOf vS).toNat)
    case atStart => exact ⟨0, Nat.zero_le _, rfl, HK5.out⟩
    case round =>
     obtain ⟨k, hk, rfl, HK⟩ := hrel
     have HK6 := hDx HK
     clear HK
     by_cases hlt : k < 4
     ·have hk1 : (0 : Int) ≤ k := by omega
      have hk2 : (k : Int) < 4 := by omega
      obtain ⟨hk3, hk4⟩ := i64w (x := (k : Int) + 1) (n := k + 1) (by omega) (by omega)
      clear hk1 hk2 hk3 hk4
      rcases (show k = 0 ∨ k = 1 ∨ k = 2 ∨ k = 3 by omega) with rfl | rfl | rfl | rfl
      ·simp only [Int.cast_ofNat_Int] at *
       have x1 : IntKind.i64.wrap 1 = 1 := by decide
       have x2 : IntKind.i64.wrap 2 = 2 := by decide
       have x3 : IntKind.i64.wrap 3 = 3 := by decide
       have x4 : IntKind.i64.wrap 4 = 4 := by decide
       have x5 : IntKind.i64.wrap 5 = 5 := by decide
       have x6 : IntKind.i64.wrap 6 = 6 := by decide
       have x7 : IntKind.i64.wrap 7 = 7 := by decide
       have x8 : IntKind.i64.wrap 8 = 8 := by decide
       have x9 : IntKind.i64.wrap 9 = 9 := by decide
       have x10 : IntKind.i64.wrap 10 = 10 := by decide
       have x11 : IntKind.i64.wrap 11 = 11 := by decide
       have x12 : IntKind.i64.wrap 12 = 12 := by decide
       have x13 : IntKind.i64.wrap 13 = 13 := by decide
       have x14 : IntKind.i64.wrap 14 = 14 := by decide
       have x15 : IntKind.i64.wrap 15 = 15 := by decide
       go_wp2_with fail
       refine (quarter_any (i1 D 0) Y 0 4 8 12 _ (i1_w hDw.out 0) (by decide) (by decide) (by decide) (by decide) (HK6.out.get 0 rfl)).mono ?_
       rintro e ww7 ⟨rfl, hG, hO⟩
       simp only []
       have HK7 := hDx (HK6.out.callT 0 rfl hO hG)
       clear hG hO
       go_wp2_with fail
       go_roundw
       case rel =>
        exact ⟨1, by decide, by first | rfl | go_num, HK7.out⟩
       exact measI 4 0 (by decide)
      ·simp only [Int.cast_ofNat_Int] at *
       have x1 : IntKind.i64.wrap 1 = 1 := by decide
       have x2 : IntKind.i64.wrap 2 = 2 := by decide
       have x3 : IntKind.i64.wrap 3 = 3 := by decide
       have x4 : IntKind.i64.wrap 4 = 4 := by decide
       have x5 : IntKind.i64.wrap 5 = 5 := by decide
       have x6 : IntKind.i64.wrap 6 = 6 := by decide
       have x7 : IntKind.i64.wrap 7 = 7 := by decide
       have x8 : IntKind.i64.wrap 8 = 8 := by decide
       have x9 : IntKind.i64.wrap 9 = 9 := by decide
       have x10 : IntKind.i64.wrap 10 = 10 := by decide
       have x11 : IntKind.i64.wrap 11 = 11 := by decide
       have x12 : IntKind.i64.wrap 12 = 12 := by decide
       have x13 : IntKind.i64.wrap 13 = 13 := by decide
       have x14 : IntKind.i64.wrap 14 = 14 := by decide
       have x15 : IntKind.i64.wrap 15 = 15 := by decide
       go_wp2_with fail
       refine (quarter_any (i1 D 1) Y 1 5 9 13 _ (i1_w hDw.out 1) (by decide) (by decide) (by decide) (by decide) (HK6.out.get 0 rfl)).mono ?_
       rintro e ww7 ⟨rfl, hG, hO⟩
       simp only []
       have HK7 := hDx (HK6.out.callT 0 rfl hO hG)
       clear hG hO
       go_wp2_with fail
       go_roundw
       case rel =>
        exact ⟨2, by decide, by first | rfl | go_num, HK7.out⟩
       exact measI 4 1 (by decide)
      ·simp only [Int.cast_ofNat_Int] at *
       have x1 : IntKind.i64.wrap 1 = 1 := by decide
       have x2 : IntKind.i64.wrap 2 = 2 := by decide
       have x3 : IntKind.i64.wrap 3 = 3 := by decide
       have x4 : IntKind.i64.wrap 4 = 4 := by decide
       have x5 : IntKind.i64.wrap 5 = 5 := by decide
       have x6 : IntKind.i64.wrap 6 = 6 := by decide
       have x7 : IntKind.i64.wrap 7 = 7 := by decide
       have x8 : IntKind.i64.wrap 8 = 8 := by decide
       have x9 : IntKind.i64.wrap 9 = 9 := by decide
       have x10 : IntKind.i64.wrap 10 = 10 := by decide
       have x11 : IntKind.i64.wrap 11 = 11 := by decide
       have x12 : IntKind.i64.wrap 12 = 12 := by decide
       have x13 : IntKind.i64.wrap 13 = 13 := by decide
       have x14 : IntKind.i64.wrap 14 = 14 := by decide
       have x15 : IntKind.i64.wrap 15 = 15 := by decide
       go_wp2_with fail
       refine (quarter_any (i1 D 2) Y 2 6 10 14 _ (i1_w hDw.out 2) (by decide) (by decide) (by decide) (by decide) (HK6.out.get 0 rfl)).mono ?_
       rintro e ww7 ⟨rfl, hG, hO⟩
       simp only []
       have HK7 := hDx (HK6.out.callT 0 rfl hO hG)
       clear hG hO
       go_wp2_with fail
       go_roundw
       case rel =>
        exact ⟨3, by decide, by first | rfl | go_num, HK7.out⟩
       exact measI 4 2 (by decide)
      simp only [Int.cast_ofNat_Int] at *
      have x1 : IntKind.i64.wrap 1 = 1 := by decide
      have x2 : IntKind.i64.wrap 2 = 2 := by decide
      have x3 : IntKind.i64.wrap 3 = 3 := by decide
      have x4 : IntKind.i64.wrap 4 = 4 := by decide
      have x5 : IntKind.i64.wrap 5 = 5 := by decide
      have x6 : IntKind.i64.wrap 6 = 6 := by decide
      have x7 : IntKind.i64.wrap 7 = 7 := by decide
      have x8 : IntKind.i64.wrap 8 = 8 := by decide
      have x9 : IntKind.i64.wrap 9 = 9 := by decide
      have x10 : IntKind.i64.wrap 10 = 10 := by decide
      have x11 : IntKind.i64.wrap 11 = 11 := by decide
      have x12 : IntKind.i64.wrap 12 = 12 := by decide
      have x13 : IntKind.i64.wrap 13 = 13 := by decide
      have x14 : IntKind.i64.wrap 14 = 14 := by decide
      have x15 : IntKind.i64.wrap 15 = 15 := by decide
      go_wp2_with fail
      refine (quarter_any (i1 D 3) Y 3 7 11 15 _ (i1_w hDw.out 3) (by decide) (by decide) (by decide) (by decide) (HK6.out.get 0 rfl)).mono ?_
      rintro e ww7 ⟨rfl, hG, hO⟩
      simp only []
      have HK7 := hDx (HK6.out.callT 0 rfl hO hG)
      clear hG hO
      go_wp2_with fail
      go_roundw
      case rel =>
       exact ⟨4, by decide, by first | rfl | go_num, HK7.out⟩
      exact measI 4 3 (by decide)
     obtain rfl : k = 4 := by omega
     try simp only [Int.cast_ofNat_Int]
     have hD2 : W32 (i1 D 4) := i1_w hDw.out 4
     obtain ⟨E, hE⟩ := nm (i1 D 4)
     rw [← hE] at hD2 HK6
     replace hD2 := hDx hD2
     replace hE := hDx hE
     go_upto_region 17 with fail
     go_loopw [69] (fun vS wr => ∃ k : Nat, k ≤ 4 ∧ vS = .int .i64 (k : Int) ∧ KS [(Y, .cells (lk .u32 (rw_ 16 (i2 E k))) 186), (NBB, .cells #[.int .u8 (b0 : Int), .int .u8 (b1 : Int), .int .u8 (b2 : Int), .int .u8 (b3 : Int)] 5), (X, .cells (lk .u32 (rw_ 16 Wf)) 186), (R, .cells (lk .u8 (zi 64)) 154)] [] w wr) (fun vS _ => 4 - (intOf vS).toNat)
     case atStart => exact ⟨0, Nat.zero_le _, rfl, HK6.out⟩
     obtain ⟨k, hk, rfl, HK⟩ := hrel
     have HK7 := hDx HK
     clear HK
     by_cases hlt : k < 4
     ·have hk1 : (0 : Int) ≤ k := by omega
      have hk2 : (k : Int) < 4 := by omega
      obtain ⟨hk3, hk4⟩ := i64w (x := (k : Int) + 1) (n := k + 1) (by omega) (by omega)
      clear hk1 hk2 hk3 hk4
      rcases (show k = 0 ∨ k = 1 ∨ k = 2 ∨ k = 3 by omega) with rfl | rfl | rfl | rfl
      ·simp only [Int.cast_ofNat_Int] at *
       have x1 : IntKind.i64.wrap 1 = 1 := by decide
       have x2 : IntKind.i64.wrap 2 = 2 := by decide
       have x3 : IntKind.i64.wrap 3 = 3 := by decide
       have x4 : IntKind.i64.wrap 4 = 4 := by decide
       have x5 : IntKind.i64.wrap 5 = 5 := by decide
       have x6 : IntKind.i64.wrap 6 = 6 := by decide
       have x7 : IntKind.i64.wrap 7 = 7 := by decide
       have x8 : IntKind.i64.wrap 8 = 8 := by decide
       have x9 : IntKind.i64.wrap 9 = 9 := by decide
       have x10 : IntKind.i64.wrap 10 = 10 := by decide
       have x11 : IntKind.i64.wrap 11 = 11 := by decide
       have x12 : IntKind.i64.wrap 12 = 12 := by decide
       have x13 : IntKind.i64.wrap 13 = 13 := by decide
       have x14 : IntKind.i64.wrap 14 = 14 := by decide
       have x15 : IntKind.i64.wrap 15 = 15 := by decide
       go_wp2_with fail
       refine (quarter_any (i2 E 0) Y 0 5 10 15 _ (i2_w hD2.out 0) (by decide) (by decide) (by decide) (by decide) (HK7.out.get 0 rfl)).mono ?_
       rintro e ww8 ⟨rfl, hG, hO⟩
       simp only []
       have HK8 := hDx (HK7.out.callT 0 rfl hO hG)
       clear hG hO
       go_wp2_with fail
       go_roundw
       case rel =>
        exact ⟨1, by decide, by first | rfl | go_num, HK8.out⟩
       exact measI 4 0 (by decide)
      ·simp only [Int.cast_ofNat_Int] at *
       have x1 : IntKind.i64.wrap 1 = 1 := by decide
       have x2 : IntKind.i64.wrap 2 = 2 := by decide
       have x3 : IntKind.i64.wrap 3 = 3 := by decide
       have x4 : IntKind.i64.wrap 4 = 4 := by decide
       have x5 : IntKind.i64.wrap 5 = 5 := by decide
       have x6 : IntKind.i64.wrap 6 = 6 := by decide
       have x7 : IntKind.i64.wrap 7 = 7 := by decide
       have x8 : IntKind.i64.wrap 8 = 8 := by decide
       have x9 : IntKind.i64.wrap 9 = 9 := by decide
       have x10 : IntKind.i64.wrap 10 = 10 := by decide
       have x11 : IntKind.i64.wrap 11 = 11 := by decide
       have x12 : IntKind.i64.wrap 12 = 12 := by decide
       have x13 : IntKind.i64.wrap 13 = 13 := by decide
       have x14 : IntKind.i64.wrap 14 = 14 := by decide
       have x15 : IntKind.i64.wrap 15 = 15 := by decide
       go_wp2_with fail
       refine (quarter_any (i2 E 1) Y 1 6 11 12 _ (i2_w hD2.out 1) (by decide) (by decide) (by decide) (by decide) (HK7.out.get 0 rfl)).mono ?_
       rintro e ww8 ⟨rfl, hG, hO⟩
       simp only []
       have HK8 := hDx (HK7.out.callT 0 rfl hO hG)
       clear hG hO
       go_wp2_with fail
       go_roundw
       case rel =>
        exact ⟨2, by decide, by first | rfl | go_num, HK8.out⟩
       exact measI 4 1 (by decide)
      ·simp only [Int.cast_ofNat_Int] at *
       have x1 : IntKind.i64.wrap 1 = 1 := by decide
       have x2 : IntKind.i64.wrap 2 = 2 := by decide
       have x3 : IntKind.i64.wrap 3 = 3 := by decide
       have x4 : IntKind.i64.wrap 4 = 4 := by decide
       have x5 : IntKind.i64.wrap 5 = 5 := by decide
       have x6 : IntKind.i64.wrap 6 = 6 := by decide
       have x7 : IntKind.i64.wrap 7 = 7 := by decide
       have x8 : IntKind.i64.wrap 8 = 8 := by decide
       have x9 : IntKind.i64.wrap 9 = 9 := by decide
       have x10 : IntKind.i64.wrap 10 = 10 := by decide
       have x11 : IntKind.i64.wrap 11 = 11 := by decide
       have x12 : IntKind.i64.wrap 12 = 12 := by decide
       have x13 : IntKind.i64.wrap 13 = 13 := by decide
       have x14 : IntKind.i64.wrap 14 = 14 := by decide
       have x15 : IntKind.i64.wrap 15 = 15 := by decide
       go_wp2_with fail
       refine (quarter_any (i2 E 2) Y 2 7 8 13 _ (i2_w hD2.out 2) (by decide) (by decide) (by decide) (by decide) (HK7.out.get 0 rfl)).mono ?_
       rintro e ww8 ⟨rfl, hG, hO⟩
       simp only []
       have HK8 := hDx (HK7.out.callT 0 rfl hO hG)
       clear hG hO
       go_wp2_with fail
       go_roundw
       case rel =>
        exact ⟨3, by decide, by first | rfl | go_num, HK8.out⟩
       exact measI 4 2 (by decide)
      simp only [Int.cast_ofNat_Int] at *
      have x1 : IntKind.i64.wrap 1 = 1 := by decide
      have x2 : IntKind.i64.wrap 2 = 2 := by decide
      have x3 : IntKind.i64.wrap 3 = 3 := by decide
      have x4 : IntKind.i64.wrap 4 = 4 := by decide
      have x5 : IntKind.i64.wrap 5 = 5 := by decide
      have x6 : IntKind.i64.wrap 6 = 6 := by decide
      have x7 : IntKind.i64.wrap 7 = 7 := by decide
      have x8 : IntKind.i64.wrap 8 = 8 := by decide
      have x9 : IntKind.i64.wrap 9 = 9 := by decide
      have x10 : IntKind.i64.wrap 10 = 10 := by decide
      have x11 : IntKind.i64.wrap 11 = 11 := by decide
      have x12 : IntKind.i64.wrap 12 = 12 := by decide
      have x13 : IntKind.i64.wrap 13 = 13 := by decide
      have x14 : IntKind.i64.wrap 14 = 14 := by decide
      have x15 : IntKind.i64.wrap 15 = 15 := by decide
      go_wp2_with fail
      refine (quarter_any (i2 E 3) Y 3 4 9 14 _ (i2_w hD2.out 3) (by decide) (by decide) (by decide) (by decide) (HK7.out.get 0 rfl)).mono ?_
      rintro e ww8 ⟨rfl, hG, hO⟩
      simp only []
      have HK8 := hDx (HK7.out.callT 0 rfl hO hG)
      clear hG hO
      go_wp2_with fail
      go_roundw
      case rel =>
       exact ⟨4, by decide, by first | rfl | go_num, HK8.out⟩
      exact measI 4 3 (by decide)
     obtain rfl : k = 4 := by omega
     try simp only [Int.cast_ofNat_Int]
     have e2 : i2 E 4 = drn Wf (r + 1) := by rw [hS1.out, hE.out]; rfl
     rw [e2] at HK7
     clear e2
     go_wp2_with fail
     go_roundw
     case rel =>
      exact ⟨r + 1, hR.out, by first | rfl | go_num, HK7.out⟩
     exact measI 10 _ hR.out
   obtain rfl : r = 10 := by omega
   try simp only [Int.cast_ofNat_Int]
   obtain ⟨Yf, hYf⟩ := nm (drn Wf 10)
   rw [← hYf] at HK5
   replace hYf := hDx hYf
   go_upto_region 23 with fail
   have hm6 := (HK5.out.made (.cells ZRu8x64 154))
   obtain ⟨O, hgO⟩ := nm wr.heap.size
   obtain ⟨ww6, hv6⟩ := nm (World.alloc wr (.cells ZRu8x64 154))
   rw [← hv6, ← hgO] at hm6
   rw [← hv6]
   try rw [← hgO]
   have HK6 : Hid (KS [(O, .cells (lk .u8 (rw_ 64 (fun _ => 0))) 154), (Y, .cells (lk .u32 (rw_ 16 Yf)) 186), (NBB, .cells #[.int .u8 (b0 : Int), .int .u8 (b1 : Int), .int .u8 (b2 : Int), .int .u8 (b3 : Int)] 5), (X, .cells (lk .u32 (rw_ 16 Wf)) 186), (R, .cells (lk .u8 (zi 64)) 154)] [] w ww6) := hDx hm6
   clear hm6 hv6 hgO
   rw [← oK_zero Wf Yf] at HK6
   go_upto_region 24 with fail
   go_loopw [88] (fun vS wr => ∃ i : Nat, i ≤ 64 ∧ vS = .int .i64 (i : Int) ∧ KS [(O, .cells (lk .u8 (rw_ 64 (oK Wf Yf i))) 154), (Y, .cells (lk .u32 (rw_ 16 Yf)) 186), (NBB, .cells #[.int .u8 (b0 : Int), .int .u8 (b1 : Int), .int .u8 (b2 : Int), .int .u8 (b3 : Int)] 5), (X, .cells (lk .u32 (rw_ 16 Wf)) 186), (R, .cells (lk .u8 (zi 64)) 154)] [] w wr) (fun vS _ => 64 - (intOf vS).toNat)
   case atStart => exact ⟨0, Nat.zero_le _, rfl, HK6.out⟩
   obtain ⟨i, hi, rfl, HK⟩ := hrel
   have HK7 := hDx HK
   clear HK
   by_cases hlt : i < 64
   ·have hi1 : (0 : Int) ≤ i := by omega
    have hi2 : (i : Int) < 64 := by omega
    obtain ⟨hi3, hi4⟩ := i64w (x := (i : Int) + 1) (n := i + 1) (by omega) (by omega)
    obtain ⟨q, m, e, hq, hm, him, h4, hq16, hq0, hq1, hquo, hrem, he, he1, he2, he3, he4⟩ := div4_i i hlt
    obtain ⟨ss, zz, oo, hadd, hsh, hcv8, es⟩ := oStep Wf Yf i q m e hlt hq hm h4 he
    have a0 : ia (rw_ 16 Wf) q = (Wf q : Int) := rw_at' _ _ _ hq16
    have a1 : ia (rw_ 16 Yf) q = (Yf q : Int) := rw_at' _ _ _ hq16
    obtain ⟨A0, hA0⟩ := nm (Wf q)
    obtain ⟨A1, hA1⟩ := nm (Yf q)
    rw [← hA0] at a0 hadd
    rw [← hA1] at a1 hadd
    obtain ⟨V, hV⟩ := nm (rw_ 64 (oK Wf Yf i))
    have lV : V.length = 64 := by rw [hV, rw_len']
    rw [← hV] at HK7
    rw [← hV] at es
    replace es := hDx es
    have hL := hDx hlt
    have lX : (rw_ 16 Wf).length = 16 := rw_len' _ _
    have lY : (rw_ 16 Yf).length = 16 := rw_len' _ _
    clear hV hA0 hA1 hq hm him h4 he he4
    go_upto_region 26 with fail
    try simp only [Act.put, sAx, s0x, s1x]
    refine wp_region_cv 16 [91, 92, 93, 94, 95, 96, 97, 98, 99, 100, 101, 102, 103, 104, 105, 106] [[], [], [92], [93], [94], [], [96], [97], [98], [95, 99], [], [101], [102], [103], [100, 104], [105]] [(91, .int .i64 (i : Int)), (92, .int .i64 (i : Int)), (93, .int .i64 (q : Int)), (94, .pointer (some ⟨X, q, none⟩)), (95, .int .u32 (A0 : Int)), (96, .int .i64 (i : Int)), (97, .int .i64 (q : Int)), (98, .pointer (some ⟨Y, q, none⟩)), (99, .int .u32 (A1 : Int)), (100, .int .u32 (ss : Int)), (101, .int .i64 (i : Int)), (102, .int .i64 (m : Int)), (103, .int .i64 (e : Int)), (104, .int .u64 (e : Int)), (105, .int .u32 (zz : Int)), (106, .int .u8 (oo : Int))] rfl (by kernel_rfl) (by kernel_rfl) (by rfl) (by kernel_rfl) ?hO2 ?hE2
    case hO2 =>
     refine ⟨?_, ?_, ?_, ?_, ?_, ?_, ?_, ?_, ?_, ?_, ?_, ?_, ?_, ?_, ?_, ?_, trivial⟩
     ·intro act u HB HO HA
      have e14 := gE (x := .int .i64 (i : Int)) (HO 14 (by decide))
      refine calm_val 91 _ rfl ?_ rfl rfl
      clear HB HO HA
      go_simp
      try rfl
     ·intro act u HB HO HA
      have e14 := gE (x := .int .i64 (i : Int)) (HO 14 (by decide))
      refine calm_val 92 _ rfl ?_ rfl rfl
      clear HB HO HA
      go_simp
      try rfl
     ·intro act u HB HO HA
      have e92 : _ = _ := qA HA 92
      exact calm_val 93 _ rfl (run_bin rfl e92 rfl hquo) rfl rfl
     ·intro act u HB HO HA
      have e7 := gE (x := .pointer (some ⟨X, 0, none⟩)) (HO 7 (by decide))
      have e93 : _ = _ := gE (qA HA 93)
      refine calm_val 94 _ rfl ?_ rfl rfl
      clear HB HO HA
      go_simp
      try rfl
     ·intro act u HB HO HA
      have e94 : _ = _ := gE (qA HA 94)
      have HS := HK7.out.drew.call HB
      have lT : u.cell? ⟨X, q, none⟩ = some (.int .u32 (A0 : Int)) := by
       have q := (HS.rk 3 rfl lX).cell q hq16
       rw [a0] at q
       exact q
      refine calm_val 95 _ rfl ?_ rfl rfl
      clear HB HO HA HS
      go_simp
      try rfl
     ·intro act u HB HO HA
      have e14 := gE (x := .int .i64 (i : Int)) (HO 14 (by decide))
      refine calm_val 96 _ rfl ?_ rfl rfl
      clear HB HO HA
      go_simp
      try rfl
     ·intro act u HB HO HA
      have e96 : _ = _ := qA HA 96
      exact calm_val 97 _ rfl (run_bin rfl e96 rfl hquo) rfl rfl
     ·intro act u HB HO HA
      have e10 := gE (x := .pointer (some ⟨Y, 0, none⟩)) (HO 10 (by decide))
      have e97 : _ = _ := gE (qA HA 97)
      refine calm_val 98 _ rfl ?_ rfl rfl
      clear HB HO HA
      go_simp
      try rfl
     ·intro act u HB HO HA
      have e98 : _ = _ := gE (qA HA 98)
      have HS := HK7.out.drew.call HB
      have lT : u.cell? ⟨Y, q, none⟩ = some (.int .u32 (A1 : Int)) := by
       have q := (HS.rk 1 rfl lY).cell q hq16
       rw [a1] at q
       exact q
      refine calm_val 99 _ rfl ?_ rfl rfl
      clear HB HO HA HS
      go_simp
      try rfl
     ·intro act u HB HO HA
      have e95 : _ = _ := gE (qA HA 95)
      have e99 : _ = _ := gE (qA HA 99)
      refine calm_val 100 _ rfl ?_ rfl rfl
      clear HB HO HA
      go_simp
      try rfl
     ·intro act u HB HO HA
      have e14 := gE (x := .int .i64 (i : Int)) (HO 14 (by decide))
      refine calm_val 101 _ rfl ?_ rfl rfl
      clear HB HO HA
      go_simp
      try rfl
     ·intro act u HB HO HA
      have e101 : _ = _ := qA HA 101
      exact calm_val 102 _ rfl (run_bin rfl e101 rfl hrem) rfl rfl
     ·intro act u HB HO HA
      have e102 : _ = _ := gE (qA HA 102)
      refine calm_val 103 _ rfl ?_ rfl rfl
      clear HB HO HA
      go_simp
      try rfl
     ·intro act u HB HO HA
      have e103 : _ = _ := gE (qA HA 103)
      refine calm_val 104 _ rfl ?_ rfl rfl
      clear HB HO HA
      go_simp
      try rfl
     ·intro act u HB HO HA
      have e100 : _ = _ := qA HA 100
      have e104 : _ = _ := qA HA 104
      exact calm_val 105 _ rfl (run_shift rfl e100 e104 (Or.inl rfl) hsh) rfl rfl
     intro act u HB HO HA
     have e105 : _ = _ := gE (qA HA 105)
     refine calm_val 106 _ rfl ?_ rfl rfl
     clear HB HO HA
     go_simp
     try rfl
    intro ww8 HB
    have HK8 := hDx (HK7.out.drew.call HB)
    simp only [fillL, Act.put, sAx, s0x, s1x, dSx, d0x]
    clear HB
    clear hadd hsh hcv8 a0 a1 hquo hrem he1 he2 he3 lX lY hq0 hq1
    have z0 := (HK8.out.rk 0 rfl lV).fz
    have c0 := (HK8.out.rk 0 rfl lV).cell i hlt
    go_upto_region 27 with fail
    obtain ⟨ww9, hv9⟩ := nm (World.setCell ww8 ⟨O, i, none⟩ (.int .u8 ((oo : Int))))
    have HK9 : Hid (KS [(O, .cells (lk .u8 (V.set i (oo : Int))) 154), (Y, .cells (lk .u32 (rw_ 16 Yf)) 186), (NBB, .cells #[.int .u8 (b0 : Int), .int .u8 (b1 : Int), .int .u8 (b2 : Int), .int .u8 (b3 : Int)] 5), (X, .cells (lk .u32 (rw_ 16 Wf)) 186), (R, .cells (lk .u8 (zi 64)) 154)] [] w ww9) := by rw [hv9]; exact hDx (HK8.out.setK 0 rfl i ((oo : Int)))
    rw [← hv9]
    clear hv9
    rw [← es.out] at HK9
    clear es lV z0 c0 hlt
    go_wp2_with fail
    go_roundw
    case rel =>
     exact ⟨i + 1, hL.out, by first | rfl | go_num, HK9.out⟩
    exact measI 64 _ hL.out
   obtain rfl : i = 64 := by omega
   try simp only [Int.cast_ofNat_Int]
   have eO : rw_ 64 (oK Wf Yf 64) = rw_ 64 (blkF S) := by rw [oK_all, hYf.out, hWf.out]; rfl
   rw [eO] at HK7
   clear eO
   have FA := (HK7.out.rk 0 rfl (rw_len' _ _))
   have FR := (HK7.out.rk 4 rfl (zi_len 64))
   go_wp2_with (first | (refine wpList_load_rk rfl _ rfl rfl FA ty154 ?_) | (refine wpList_store_rk rfl _ _ rfl rfl rfl FR ty154 (rw_len' _ _) ?_))
   have KE := HK7.out.setRow 4 rfl (lk .u8 (rw_ 64 (blkF S)))
   try simp only [Exit.inBlock, Exit.then]
   refine bodyPost_ret (results_rk (p := 6) (by kernel_rfl) (by rfl) (KE.rk 4 rfl (rw_len' _ _)) ty154) rfl ?_
   exact ⟨rfl, KE.below⟩
end
section
open Go.RowKit T
theorem may_any (key nonce : ByteArray) (w : World) (h32 : key.size = 32) (h12 : nonce.size = 12) : Calls Tryz.prog 64 #[.string key, .string nonce] w fun e w' => e = .returned (.bool true) ∧ Below w.heap.size w w' := by
 have a1 : (key.size : Int) = 32 := by omega
 have a2 : (nonce.size : Int) = 12 := by omega
 go_enter Tryz.func64, Tryz.ntmps64
 go_wp2_with fail
 go_ret
 exact ⟨rfl, Below.refl _ _⟩
theorem rmay_any (key nonce : ByteArray) (w : World) (h32 : key.size = 32) (h12 : nonce.size = 12) : Calls Tryz.prog 25 #[.string key, .string nonce] w fun e w' => e = .returned (.bool true) ∧ Below w.heap.size w w' := by
 have a1 : (key.size : Int) = 32 := by omega
 have a2 : (nonce.size : Int) = 12 := by omega
 go_enter Tryz.func25, Tryz.ntmps25
 go_wp2_with fail
 go_ret
 exact ⟨rfl, Below.refl _ _⟩
theorem cblock_any (key nonce : ByteArray) (n : Nat) (w : World) (h32 : key.size = 32) (h12 : nonce.size = 12) (hn : n < 4294967296) :
  Calls Tryz.prog 66 #[.string key, .string nonce, .int .u32 (n : Int)] w fun e w' => e = .returned (.tuple #[.string (blkS key nonce n), .int .i64 0]) ∧ Below w.heap.size w w' := by
 go_enter Tryz.func66, Tryz.ntmps66
 have HK0 := hDx (KS.start w)
 go_wp2_with fail
 refine (may_any key nonce _ h32 h12).mono ?_
 rintro e ww1 ⟨rfl, B1⟩
 simp only []
 have HK1 := hDx (HK0.out.call B1)
 clear B1
 go_wp2_with fail
 refine (block_any key nonce n _ h32 h12 hn).mono ?_
 rintro e ww2 ⟨rfl, B1⟩
 simp only []
 have HK2 := hDx (HK1.out.call B1)
 clear B1
 have FH3 := rk_new ww2 154 64 .u8 (zi 64) (zi_len 64)
 go_upto_region 4 with (refine wpList_store_rk rfl _ _ rfl rfl rfl FH3 ty154 (rw_len' _ _) ?_)
 have hm3 := (HK2.out.made (.cells ZRu8x64 154)).setRow 0 rfl (lk .u8 (rw_ 64 (blkF (allS key nonce n))))
 obtain ⟨A, hgA⟩ := nm ww2.heap.size
 obtain ⟨ww3, hv3⟩ := nm (World.setRow (World.alloc ww2 (.cells ZRu8x64 154)) ww2.heap.size (lk .u8 (rw_ 64 (blkF (allS key nonce n)))))
 rw [← hv3, ← hgA] at hm3
 rw [← hv3]
 try rw [← hgA]
 have HK3 : Hid (KS [(A, .cells (lk .u8 (rw_ 64 (blkF (allS key nonce n)))) 154)] [] w ww3) := hDx hm3
 clear hm3 hv3 hgA
 have hcv := (HK3.out.rk 0 rfl (rw_len' _ _)).conv 64
 rw [show strOfNums (rw_ 64 (blkF (allS key nonce n))) = blkS key nonce n from rfl] at hcv
 go_wp2_with fail
 go_ret2
 exact ⟨rfl, HK3.out.below⟩
theorem word_or (a b k : Nat) (ha : a < 2 ^ k) (h : a + b * 2 ^ k < 4294967296) : bits .or .u32 (a : Int) ((b * 2 ^ k : Nat) : Int) = ((a + b * 2 ^ k : Nat) : Int) := by
 have e : a ||| b * 2 ^ k = a + b * 2 ^ k := by
  rw [Nat.or_comm, Nat.mul_comm b, ← Nat.two_pow_add_eq_or_of_lt ha, Nat.add_comm]
 rw [u32_or_nat a (b * 2 ^ k) (by omega) (by omega), e]
theorem word_i (s : ByteArray) : ∃ b0 b1 b2 b3 z1 z2 z3 y1 y2 y3 : Nat, b0 = bt s 0 ∧ b1 = bt s 1 ∧ b2 = bt s 2 ∧ b3 = bt s 3 ∧ IntKind.u32.wrap (b0 : Int) = b0 ∧ IntKind.u32.wrap (b1 : Int) = b1 ∧ IntKind.u32.wrap (b2 : Int) = b2 ∧ IntKind.u32.wrap (b3 : Int) = b3 ∧
  IntKind.u32.wrap ((b1 : Int) * 256) = z1 ∧ IntKind.u32.wrap ((b2 : Int) * 65536) = z2 ∧ IntKind.u32.wrap ((b3 : Int) * 16777216) = z3 ∧ bits .or .u32 (b0 : Int) (z1 : Int) = y1 ∧ bits .or .u32 (y1 : Int) (z2 : Int) = y2 ∧ bits .or .u32 (y2 : Int) (z3 : Int) = y3 ∧ y3 = leN s 4 := by
 have h0 := bt_lt s 0
 have h1 := bt_lt s 1
 have h2 := bt_lt s 2
 have h3 := bt_lt s 3
 have w32 : ∀ a : Nat, a < 4294967296 → IntKind.u32.wrap (a : Int) = a := fun a h => by rw [wrap32, Nat.mod_eq_of_lt h]
 refine ⟨bt s 0, bt s 1, bt s 2, bt s 3, bt s 1 * 2 ^ 8, bt s 2 * 2 ^ 16, bt s 3 * 2 ^ 24, bt s 0 + bt s 1 * 2 ^ 8, bt s 0 + bt s 1 * 2 ^ 8 + bt s 2 * 2 ^ 16, bt s 0 + bt s 1 * 2 ^ 8 + bt s 2 * 2 ^ 16 + bt s 3 * 2 ^ 24, rfl, rfl, rfl, rfl, w32 _ (by omega), w32 _ (by omega), w32 _ (by omega), w32 _ (by omega), ?_, ?_, ?_, word_or _ _ _ (by omega) (by omega), word_or _ _ _ (by omega) (by omega), word_or _ _ _ (by omega) (by omega), ?_⟩
 ·have := w32 (bt s 1 * 2 ^ 8) (by omega); rw [← this]; congr 1
 ·have := w32 (bt s 2 * 2 ^ 16) (by omega); rw [← this]; congr 1
 ·have := w32 (bt s 3 * 2 ^ 24) (by omega); rw [← this]; congr 1
 simp only [leN, Nat.reducePow]; omega
theorem rword_any (s : ByteArray) (h : s.size = 4) (w : World) : Calls Tryz.prog 72 #[.string s] w fun e w' => e = .returned (.int .u32 (leN s 4 : Int)) ∧ Below w.heap.size w w' := by
 obtain ⟨b0, b1, b2, b3, z1, z2, z3, y1, y2, y3, e0, e1, e2, e3, c0, c1, c2, c3, d1, d2, d3, o1, o2, o3, hy⟩ := word_i s
 have k0 := fun u => idxS (s := s) (k := 0) (by omega) u
 have k1 := fun u => idxS (s := s) (k := 1) (by omega) u
 have k2 := fun u => idxS (s := s) (k := 2) (by omega) u
 have k3 := fun u => idxS (s := s) (k := 3) (by omega) u
 rw [← e0] at k0
 rw [← e1] at k1
 rw [← e2] at k2
 rw [← e3] at k3
 simp only [Int.cast_ofNat_Int] at k0 k1 k2 k3
 rw [← hy]
 clear e0 e1 e2 e3 hy h
 go_enter Tryz.func72, Tryz.ntmps72
 have HK0 := hDx (KS.start w)
 go_upto_region 1 with fail
 go_still (by kernel_rfl)
 go_wp2_with fail
 go_ret
 exact ⟨rfl, HK0.out.drew.below⟩
end
end Go.Proofs.YtoplbfijodebmaaGreatDoor
