/-
  The walk.
-/
import Derived.Test.YtoplbfijodebmaaGreatDoorM29CE
set_option linter.unusedVariables false
set_option linter.unusedSimpArgs false
set_option maxRecDepth 100000
set_option maxHeartbeats 40000000
namespace Go.Proofs.YtoplbfijodebmaaGreatDoor
open Go.RowKit T
def xR (S : ByteArray) (k j : Nat) : Nat := if j < k then wW S 64 j else 0
theorem xR_upd (S : ByteArray) (k : Nat) : upd (xR S k) k (wW S 64 k) = xR S (k + 1) := by
 funext j
 unfold upd xR
 by_cases e : j = k
 ·subst e; rw [if_pos rfl, if_pos (by omega)]
 rw [if_neg e]
 by_cases e1 : j < k
 ·rw [if_pos e1, if_pos (by omega)]
 rw [if_neg e1, if_neg (by omega)]
theorem xR_all (S : ByteArray) : rw_ 16 (xR S 16) = rw_ 16 (wW S 64) := rw_ext fun j hj => by unfold xR; rw [if_pos hj]
theorem xR_zero (S : ByteArray) : rw_ 16 (xR S 0) = rw_ 16 (fun _ => 0) := rw_ext fun j hj => by unfold xR; rw [if_neg (by omega)]
theorem leN_four (S : ByteArray) (j : Nat) (hj : j < 16) (hS : S.size = 64) : leN (S.extract (4 * j) (4 * j + 4)) 4 = wW S 64 j := by
 rw [wW_four, if_pos (by omega), if_pos (by omega), if_pos (by omega), if_pos (by omega)]
 simp only [leN]
 rw [bt_ext (by omega) (by omega), bt_ext (by omega) (by omega), bt_ext (by omega) (by omega), bt_ext (by omega) (by omega)]
 simp only [Nat.reducePow]
 omega
theorem four_i (i : Nat) (hi : i < 16) : ∃ a b : Nat, a = 4 * i ∧ b = 4 * i + 4 ∧ 4 * (i : Int) = a ∧ IntKind.i64.wrap (a : Int) = a ∧ wrap64 (a : Int) = a ∧ (a : Int) + 4 = b ∧ IntKind.i64.wrap (b : Int) = b ∧ wrap64 (b : Int) = b ∧ (0 : Int) ≤ a ∧ (a : Int) ≤ b ∧ (b : Int) ≤ 64 := by
 obtain ⟨a1, a2⟩ := i64w (x := ((4 * i : Nat) : Int)) (n := 4 * i) rfl (by omega)
 obtain ⟨b1, b2⟩ := i64w (x := ((4 * i + 4 : Nat) : Int)) (n := 4 * i + 4) rfl (by omega)
 exact ⟨4 * i, 4 * i + 4, rfl, rfl, by omega, a2, a1, by omega, b2, b1, by omega, by omega, by omega⟩
theorem dr_eight (D : Nat → Nat) : dr D = qr (qr (qr (qr (qr (qr (qr (qr D 0 4 8 12) 1 5 9 13) 2 6 10 14) 3 7 11 15) 0 5 10 15) 1 6 11 12) 2 7 8 13) 3 4 9 14 := rfl
theorem rblock_any (key nonce : ByteArray) (n : Nat) (w : World) (h32 : key.size = 32) (h12 : nonce.size = 12) (hn : n < 4294967296) :
  Calls Tryz.prog 47 #[.string key, .string nonce, .int .u32 (n : Int)] w fun e w' => e = .returned (.string (blkS key nonce n)) ∧ Below w.heap.size w w' := by
 obtain ⟨S, hS⟩ := nm (allS key nonce n)
 have hS64 : S.size = 64 := by rw [hS]; exact allS_size n h32 h12
 have hSi : (S.size : Int) = 64 := by omega
 obtain ⟨NB, hNB⟩ := nm (strOfNums (numL n))
 have hNs : NB.size = 4 := by rw [hNB, sb_size]; rfl
 have hgs : sigS.size = 16 := rfl
 obtain ⟨S1, hS1⟩ := nm (sigS ++ key)
 obtain ⟨S2, hS2⟩ := nm (S1 ++ NB)
 have hz1 : S1.size = 48 := by rw [hS1, ByteArray.size_append, hgs, h32]
 have hz2 : S2.size = 52 := by rw [hS2, ByteArray.size_append, hz1, hNs]
 have hSS : S2 ++ nonce = S := by rw [hS2, hS1, hS, hNB]; rfl
 have ct1 := addS sigS key (by rw [hgs, h32]; decide)
 have ct2 := addS S1 NB (by rw [hz1, hNs]; decide)
 have ct3 := addS S2 nonce (by rw [hz2, h12]; decide)
 rw [← hS1] at ct1
 rw [← hS2] at ct2
 rw [hSS] at ct3
 replace ct1 : ∀ u, (Op.stringOp .add { data := #[101, 120, 112, 97, 110, 100, 32, 51, 50, 45, 98, 121, 116, 101, 32, 107] } key).run Tryz.prog u = .ok (.string S1) u := ct1
 clear hNs hgs hS1 hS2 hz1 hz2 hSS
 obtain ⟨b0, b1, b2, b3, m1, m2, m3, hL, n0, n1, n2, n3, n4, n5, n6⟩ := num_i n hn
 have hcv := fun u => (rk_new u 5 4 .u8 (numL n) rfl).conv 4
 rw [← hNB, hL] at hcv
 replace hcv : ∀ u : World, (convert 52 9 (.slice (some ⟨u.heap.size, 0, none⟩) 4 4)).run Tryz.prog (u.alloc (.cells #[.int .u8 (b0 : Int), .int .u8 (b1 : Int), .int .u8 (b2 : Int), .int .u8 (b3 : Int)] 5)) = .ok (.string NB) (u.alloc (.cells #[.int .u8 (b0 : Int), .int .u8 (b1 : Int), .int .u8 (b2 : Int), .int .u8 (b3 : Int)] 5)) := hcv
 have HS := hDx (And.intro hS hS64)
 clear hS hNB hL hn h32 h12 hS64
 have hmk := fun w => make_u8 64 (by decide) w
 simp only [Int.cast_ofNat_Int] at hmk
 obtain ⟨RES, hRES⟩ := nm (blkS key nonce n)
 rw [← hRES]
 have hRES2 : RES = strOfNums (rw_ 64 (blkF S)) := by rw [hRES, HS.out.1]; rfl
 replace hRES2 := hDx hRES2
 clear hRES
 go_enter Tryz.func47, Tryz.ntmps47
 have HK0 := hDx (KS.start w)
 go_upto_region 2 with (fail)
 have hm1 := (HK0.out.made (.cells #[.int .u8 (b0 : Int), .int .u8 (b1 : Int), .int .u8 (b2 : Int), .int .u8 (b3 : Int)] 5))
 obtain ⟨NBB, hgNBB⟩ := nm w.heap.size
 obtain ⟨ww1, hv1⟩ := nm (World.alloc w (.cells #[.int .u8 (b0 : Int), .int .u8 (b1 : Int), .int .u8 (b2 : Int), .int .u8 (b3 : Int)] 5))
 rw [← hv1, ← hgNBB] at hm1
 rw [← hv1]
 try rw [← hgNBB]
 have HK1 : Hid (KS [(NBB, .cells #[.int .u8 (b0 : Int), .int .u8 (b1 : Int), .int .u8 (b2 : Int), .int .u8 (b3 : Int)] 5)] [] w ww1) := hDx hm1
 clear hm1 hv1 hgNBB
 clear hcv n0 n1 n2 n3 n4 n5 n6 ct1 ct2 ct3
 go_upto_region 3 with fail
 have hm2 := (HK1.out.made (.cells ZRu32x16 130))
 obtain ⟨X, hgX⟩ := nm ww1.heap.size
 obtain ⟨ww2, hv2⟩ := nm (World.alloc ww1 (.cells ZRu32x16 130))
 rw [← hv2, ← hgX] at hm2
 rw [← hv2]
 try rw [← hgX]
 have HK2 : Hid (KS [(X, .cells (lk .u32 (rw_ 16 (fun _ => 0))) 130), (NBB, .cells #[.int .u8 (b0 : Int), .int .u8 (b1 : Int), .int .u8 (b2 : Int), .int .u8 (b3 : Int)] 5)] [] w ww2) := hDx hm2
 clear hm2 hv2 hgX
 rw [← xR_zero S] at HK2
 go_upto_region 4 with fail
 go_loopw [9] (fun vS wr => ∃ i : Nat, i ≤ 16 ∧ vS = .int .i64 (i : Int) ∧ KS [(X, .cells (lk .u32 (rw_ 16 (xR S i))) 130), (NBB, .cells #[.int .u8 (b0 : Int), .int .u8 (b1 : Int), .int .u8 (b2 : Int), .int .u8 (b3 : Int)] 5)] [] w wr) (fun vS _ => 16 - (intOf vS).toNat)
 case atStart => exact ⟨0, Nat.zero_le _, rfl, HK2.out⟩
 case round =>
  obtain ⟨i, hi, rfl, HK⟩ := hrel
  have HK3 := hDx HK
  clear HK
  by_cases hlt : i < 16
  ·have hi1 : (0 : Int) ≤ i := by omega
   have hi2 : (i : Int) < 16 := by omega
   obtain ⟨hi3, hi4⟩ := i64w (x := (i : Int) + 1) (n := i + 1) (by omega) (by omega)
   obtain ⟨a, b, ha, hb, a1, a2, a3, a4, a5, a6, a7, a8, a9⟩ := four_i i hlt
   have hl4 := leN_four S i hlt HS.out.2
   rw [← hb, ← ha] at hl4
   have hxs : (S.extract a b).size = 4 := by rw [ByteArray.size_extract, HS.out.2]; omega
   have es := xR_upd S i
   obtain ⟨v, hv⟩ := nm (wW S 64 i)
   rw [← hv] at hl4 es
   have es2 : rw_ 16 (xR S (i + 1)) = (rw_ 16 (xR S i)).set i (v : Int) := by rw [rw_set, es]
   obtain ⟨xs, hx⟩ := nm (S.extract a b)
   rw [← hx] at hl4 hxs
   obtain ⟨V, hV⟩ := nm (rw_ 16 (xR S i))
   have lV : V.length = 16 := by rw [hV, rw_len']
   rw [← hV] at HK3
   rw [← hV] at es2
   replace es2 := hDx es2
   have hL := hDx hlt
   clear es hV ha hb hv
   go_wp2_with fail
   try rw [← hx]
   refine (rword_any xs hxs _).mono ?_
   rintro e ww4 ⟨rfl, B1⟩
   simp only []
   have HK4 := hDx (HK3.out.call B1)
   clear B1
   rw [hl4]
   have z0 := (HK4.out.rk 0 rfl lV).fz
   have c0 := (HK4.out.rk 0 rfl lV).cell i hlt
   go_upto_region 5 with fail
   obtain ⟨ww5, hv5⟩ := nm (World.setCell ww4 ⟨X, i, none⟩ (.int .u32 ((v : Int))))
   have HK5 : Hid (KS [(X, .cells (lk .u32 (V.set i (v : Int))) 130), (NBB, .cells #[.int .u8 (b0 : Int), .int .u8 (b1 : Int), .int .u8 (b2 : Int), .int .u8 (b3 : Int)] 5)] [] w ww5) := by rw [hv5]; exact hDx (HK4.out.setK 0 rfl i ((v : Int)))
   rw [← hv5]
   clear hv5
   rw [← es2.out] at HK5
   clear es2 lV z0 c0 hlt
   go_wp2_with fail
   go_roundw
   case rel =>
    exact ⟨i + 1, hL.out, by first | rfl | go_num, HK5.out⟩
   exact measI 16 _ hL.out
  obtain rfl : i = 16 := by omega
  try simp only [Int.cast_ofNat_Int]
  rw [xR_all] at HK3
  have hWw := wW_w S 64
  obtain ⟨Wf, hWf⟩ := nm (wW S 64)
  rw [← hWf] at hWw HK3
  replace hWf := hDx hWf
  replace hWw := hDx hWw
  have FX := (HK3.out.rk 0 rfl (rw_len' _ _))
  have FH4 := rk_new wr 130 16 .u32 (zi 16) (zi_len 16)
  go_upto_region 8 with (first | (with_reducible show wpList _ _ _ _ _ _; refine wpList_load_rk rfl _ rfl rfl FX ty130 ?_) | (refine wpList_store_rk rfl _ _ rfl rfl rfl FH4 ty130 (rw_len' _ _) ?_))
  have hm4 := (HK3.out.made (.cells ZRu32x16 130)).setRow 0 rfl (lk .u32 (rw_ 16 Wf))
  obtain ⟨Y, hgY⟩ := nm wr.heap.size
  obtain ⟨ww4, hv4⟩ := nm (World.setRow (World.alloc wr (.cells ZRu32x16 130)) wr.heap.size (lk .u32 (rw_ 16 Wf)))
  rw [← hv4, ← hgY] at hm4
  rw [← hv4]
  try rw [← hgY]
  have HK4 : Hid (KS [(Y, .cells (lk .u32 (rw_ 16 Wf)) 130), (X, .cells (lk .u32 (rw_ 16 Wf)) 130), (NBB, .cells #[.int .u8 (b0 : Int), .int .u8 (b1 : Int), .int .u8 (b2 : Int), .int .u8 (b3 : Int)] 5)] [] w ww4) := hDx hm4
  clear hm4 hv4 hgY
  clear FX
  go_upto_region 9 with fail
  go_loopw [11] (fun vS wr => ∃ r : Nat, r ≤ 10 ∧ vS = .int .i64 (r : Int) ∧ KS [(Y, .cells (lk .u32 (rw_ 16 (drn Wf r))) 130), (X, .cells (lk .u32 (rw_ 16 Wf)) 130), (NBB, .cells #[.int .u8 (b0 : Int), .int .u8 (b1 : Int), .int .u8 (b2 : Int), .int .u8 (b3 : Int)] 5)] [] w wr) (fun vS _ => 10 - (intOf vS).toNat)
  case atStart => exact ⟨0, Nat.zero_le _, rfl, HK4.out⟩
  case round =>
   obtain ⟨r, hr, rfl, HK⟩ := hrel
   have HK5 := hDx HK
   clear HK
   by_cases hlt : r < 10
   ·have hr1 : (0 : Int) ≤ r := by omega
    have hr2 : (r : Int) < 10 := by omega
    obtain ⟨hr3, hr4⟩ := i64w (x := (r : Int) + 1) (n := r + 1) (by omega) (by omega)
    obtain ⟨D, hD⟩ := nm (drn Wf r)
    have hDw : W32 D := by rw [hD]; exact drn_w hWw.out r
    have hS1 : drn Wf (r + 1) = dr D := by rw [hD]; rfl
    rw [← hD] at HK5
    have W0 := hDx hDw
    replace hS1 := hDx hS1
    have hR := hDx hlt
    clear hD hlt hDw
    have FY := (HK5.out.rk 0 rfl (rw_len' _ _))
    go_wp2_with (with_reducible show wpList _ _ _ _ _ _; refine wpList_load_rk (b := Y) rfl _ rfl rfl FY ty130 ?_)
    refine (rquarter_any D 0 4 8 12 W0.out (by decide) (by decide) (by decide) (by decide) _).mono ?_
    rintro e ww6 ⟨rfl, B1⟩
    simp only []
    have HK6 := hDx (HK5.out.call B1)
    clear B1
    clear FY
    obtain ⟨D1, hD1⟩ := nm (qr D 0 4 8 12)
    have W1 : Hid (W32 D1) := hDx (by rw [hD1]; exact qr_w W0.out _ _ _ _)
    rw [← hD1]
    replace hD1 := hDx hD1
    have FS := (HK6.out.rk 0 rfl (rw_len' _ _))
    go_upto_region 12 with (refine wpList_store_rk rfl _ _ rfl rfl rfl FS ty130 (rw_len' _ _) ?_)
    obtain ⟨ww7, hv7⟩ := nm (World.setRow ww6 Y (lk .u32 (rw_ 16 D1)))
    have HK7 : Hid (KS [(Y, .cells (lk .u32 (rw_ 16 D1)) 130), (X, .cells (lk .u32 (rw_ 16 Wf)) 130), (NBB, .cells #[.int .u8 (b0 : Int), .int .u8 (b1 : Int), .int .u8 (b2 : Int), .int .u8 (b3 : Int)] 5)] [] w ww7) := by rw [hv7]; exact hDx (HK6.out.setRow 0 rfl _)
    rw [← hv7]
    clear hv7
    clear FS
    have FY := (HK7.out.rk 0 rfl (rw_len' _ _))
    go_wp2_with (with_reducible show wpList _ _ _ _ _ _; refine wpList_load_rk (b := Y) rfl _ rfl rfl FY ty130 ?_)
    refine (rquarter_any D1 1 5 9 13 W1.out (by decide) (by decide) (by decide) (by decide) _).mono ?_
    rintro e ww8 ⟨rfl, B1⟩
    simp only []
    have HK8 := hDx (HK7.out.call B1)
    clear B1
    clear FY
    obtain ⟨D2, hD2⟩ := nm (qr D1 1 5 9 13)
    have W2 : Hid (W32 D2) := hDx (by rw [hD2]; exact qr_w W1.out _ _ _ _)
    rw [← hD2]
    replace hD2 := hDx hD2
    have FS := (HK8.out.rk 0 rfl (rw_len' _ _))
    go_upto_region 13 with (refine wpList_store_rk rfl _ _ rfl rfl rfl FS ty130 (rw_len' _ _) ?_)
    obtain ⟨ww9, hv9⟩ := nm (World.setRow ww8 Y (lk .u32 (rw_ 16 D2)))
    have HK9 : Hid (KS [(Y, .cells (lk .u32 (rw_ 16 D2)) 130), (X, .cells (lk .u32 (rw_ 16 Wf)) 130), (NBB, .cells #[.int .u8 (b0 : Int), .int .u8 (b1 : Int), .int .u8 (b2 : Int), .int .u8 (b3 : Int)] 5)] [] w ww9) := by rw [hv9]; exact hDx (HK8.out.setRow 0 rfl _)
    rw [← hv9]
    clear hv9
    clear FS
    have FY := (HK9.out.rk 0 rfl (rw_len' _ _))
    go_wp2_with (with_reducible show wpList _ _ _ _ _ _; refine wpList_load_rk (b := Y) rfl _ rfl rfl FY ty130 ?_)
    refine (rquarter_any D2 2 6 10 14 W2.out (by decide) (by decide) (by decide) (by decide) _).mono ?_
    rintro e ww10 ⟨rfl, B1⟩
    simp only []
    have HK10 := hDx (HK9.out.call B1)
    clear B1
    clear FY
    obtain ⟨D3, hD3⟩ := nm (qr D2 2 6 10 14)
    have W3 : Hid (W32 D3) := hDx (by rw [hD3]; exact qr_w W2.out _ _ _ _)
    rw [← hD3]
    replace hD3 := hDx hD3
    have FS := (HK10.out.rk 0 rfl (rw_len' _ _))
    go_upto_region 14 with (refine wpList_store_rk rfl _ _ rfl rfl rfl FS ty130 (rw_len' _ _) ?_)
    obtain ⟨ww11, hv11⟩ := nm (World.setRow ww10 Y (lk .u32 (rw_ 16 D3)))
    have HK11 : Hid (KS [(Y, .cells (lk .u32 (rw_ 16 D3)) 130), (X, .cells (lk .u32 (rw_ 16 Wf)) 130), (NBB, .cells #[.int .u8 (b0 : Int), .int .u8 (b1 : Int), .int .u8 (b2 : Int), .int .u8 (b3 : Int)] 5)] [] w ww11) := by rw [hv11]; exact hDx (HK10.out.setRow 0 rfl _)
    rw [← hv11]
    clear hv11
    clear FS
    have FY := (HK11.out.rk 0 rfl (rw_len' _ _))
    go_wp2_with (with_reducible show wpList _ _ _ _ _ _; refine wpList_load_rk (b := Y) rfl _ rfl rfl FY ty130 ?_)
    refine (rquarter_any D3 3 7 11 15 W3.out (by decide) (by decide) (by decide) (by decide) _).mono ?_
    rintro e ww12 ⟨rfl, B1⟩
    simp only []
    have HK12 := hDx (HK11.out.call B1)
    clear B1
    clear FY
    obtain ⟨D4, hD4⟩ := nm (qr D3 3 7 11 15)
    have W4 : Hid (W32 D4) := hDx (by rw [hD4]; exact qr_w W3.out _ _ _ _)
    rw [← hD4]
    replace hD4 := hDx hD4
    have FS := (HK12.out.rk 0 rfl (rw_len' _ _))
    go_upto_region 15 with (refine wpList_store_rk rfl _ _ rfl rfl rfl FS ty130 (rw_len' _ _) ?_)
    obtain ⟨ww13, hv13⟩ := nm (World.setRow ww12 Y (lk .u32 (rw_ 16 D4)))
    have HK13 : Hid (KS [(Y, .cells (lk .u32 (rw_ 16 D4)) 130), (X, .cells (lk .u32 (rw_ 16 Wf)) 130), (NBB, .cells #[.int .u8 (b0 : Int), .int .u8 (b1 : Int), .int .u8 (b2 : Int), .int .u8 (b3 : Int)] 5)] [] w ww13) := by rw [hv13]; exact hDx (HK12.out.setRow 0 rfl _)
    rw [← hv13]
    clear hv13
    clear FS
    have FY := (HK13.out.rk 0 rfl (rw_len' _ _))
    go_wp2_with (with_reducible show wpList _ _ _ _ _ _; refine wpList_load_rk (b := Y) rfl _ rfl rfl FY ty130 ?_)
    refine (rquarter_any D4 0 5 10 15 W4.out (by decide) (by decide) (by decide) (by decide) _).mono ?_
    rintro e ww14 ⟨rfl, B1⟩
    simp only []
    have HK14 := hDx (HK13.out.call B1)
    clear B1
    clear FY
    obtain ⟨D5, hD5⟩ := nm (qr D4 0 5 10 15)
    have W5 : Hid (W32 D5) := hDx (by rw [hD5]; exact qr_w W4.out _ _ _ _)
    rw [← hD5]
    replace hD5 := hDx hD5
    have FS := (HK14.out.rk 0 rfl (rw_len' _ _))
    go_upto_region 16 with (refine wpList_store_rk rfl _ _ rfl rfl rfl FS ty130 (rw_len' _ _) ?_)
    obtain ⟨ww15, hv15⟩ := nm (World.setRow ww14 Y (lk .u32 (rw_ 16 D5)))
    have HK15 : Hid (KS [(Y, .cells (lk .u32 (rw_ 16 D5)) 130), (X, .cells (lk .u32 (rw_ 16 Wf)) 130), (NBB, .cells #[.int .u8 (b0 : Int), .int .u8 (b1 : Int), .int .u8 (b2 : Int), .int .u8 (b3 : Int)] 5)] [] w ww15) := by rw [hv15]; exact hDx (HK14.out.setRow 0 rfl _)
    rw [← hv15]
    clear hv15
    clear FS
    have FY := (HK15.out.rk 0 rfl (rw_len' _ _))
    go_wp2_with (with_reducible show wpList _ _ _ _ _ _; refine wpList_load_rk (b := Y) rfl _ rfl rfl FY ty130 ?_)
    refine (rquarter_any D5 1 6 11 12 W5.out (by decide) (by decide) (by decide) (by decide) _).mono ?_
    rintro e ww16 ⟨rfl, B1⟩
    simp only []
    have HK16 := hDx (HK15.out.call B1)
    clear B1
    clear FY
    obtain ⟨D6, hD6⟩ := nm (qr D5 1 6 11 12)
    have W6 : Hid (W32 D6) := hDx (by rw [hD6]; exact qr_w W5.out _ _ _ _)
    rw [← hD6]
    replace hD6 := hDx hD6
    have FS := (HK16.out.rk 0 rfl (rw_len' _ _))
    go_upto_region 17 with (refine wpList_store_rk rfl _ _ rfl rfl rfl FS ty130 (rw_len' _ _) ?_)
    obtain ⟨ww17, hv17⟩ := nm (World.setRow ww16 Y (lk .u32 (rw_ 16 D6)))
    have HK17 : Hid (KS [(Y, .cells (lk .u32 (rw_ 16 D6)) 130), (X, .cells (lk .u32 (rw_ 16 Wf)) 130), (NBB, .cells #[.int .u8 (b0 : Int), .int .u8 (b1 : Int), .int .u8 (b2 : Int), .int .u8 (b3 : Int)] 5)] [] w ww17) := by rw [hv17]; exact hDx (HK16.out.setRow 0 rfl _)
    rw [← hv17]
    clear hv17
    clear FS
    have FY := (HK17.out.rk 0 rfl (rw_len' _ _))
    go_wp2_with (with_reducible show wpList _ _ _ _ _ _; refine wpList_load_rk (b := Y) rfl _ rfl rfl FY ty130 ?_)
    refine (rquarter_any D6 2 7 8 13 W6.out (by decide) (by decide) (by decide) (by decide) _).mono ?_
    rintro e ww18 ⟨rfl, B1⟩
    simp only []
    have HK18 := hDx (HK17.out.call B1)
    clear B1
    clear FY
    obtain ⟨D7, hD7⟩ := nm (qr D6 2 7 8 13)
    have W7 : Hid (W32 D7) := hDx (by rw [hD7]; exact qr_w W6.out _ _ _ _)
    rw [← hD7]
    replace hD7 := hDx hD7
    have FS := (HK18.out.rk 0 rfl (rw_len' _ _))
    go_upto_region 18 with (refine wpList_store_rk rfl _ _ rfl rfl rfl FS ty130 (rw_len' _ _) ?_)
    obtain ⟨ww19, hv19⟩ := nm (World.setRow ww18 Y (lk .u32 (rw_ 16 D7)))
    have HK19 : Hid (KS [(Y, .cells (lk .u32 (rw_ 16 D7)) 130), (X, .cells (lk .u32 (rw_ 16 Wf)) 130), (NBB, .cells #[.int .u8 (b0 : Int), .int .u8 (b1 : Int), .int .u8 (b2 : Int), .int .u8 (b3 : Int)] 5)] [] w ww19) := by rw [hv19]; exact hDx (HK18.out.setRow 0 rfl _)
    rw [← hv19]
    clear hv19
    clear FS
    have FY := (HK19.out.rk 0 rfl (rw_len' _ _))
    go_wp2_with (with_reducible show wpList _ _ _ _ _ _; refine wpList_load_rk (b := Y) rfl _ rfl rfl FY ty130 ?_)
    refine (rquarter_any D7 3 4 9 14 W7.out (by decide) (by decide) (by decide) (by decide) _).mono ?_
    rintro e ww20 ⟨rfl, B1⟩
    simp only []
    have HK20 := hDx (HK19.out.call B1)
    clear B1
    clear FY
    obtain ⟨D8, hD8⟩ := nm (qr D7 3 4 9 14)
    have W8 : Hid (W32 D8) := hDx (by rw [hD8]; exact qr_w W7.out _ _ _ _)
    rw [← hD8]
    replace hD8 := hDx hD8
    have FS := (HK20.out.rk 0 rfl (rw_len' _ _))
    go_upto_region 10 with (refine wpList_store_rk rfl _ _ rfl rfl rfl FS ty130 (rw_len' _ _) ?_)
    obtain ⟨ww21, hv21⟩ := nm (World.setRow ww20 Y (lk .u32 (rw_ 16 D8)))
    have HK21 : Hid (KS [(Y, .cells (lk .u32 (rw_ 16 D8)) 130), (X, .cells (lk .u32 (rw_ 16 Wf)) 130), (NBB, .cells #[.int .u8 (b0 : Int), .int .u8 (b1 : Int), .int .u8 (b2 : Int), .int .u8 (b3 : Int)] 5)] [] w ww21) := by rw [hv21]; exact hDx (HK20.out.setRow 0 rfl _)
    rw [← hv21]
    clear hv21
    clear FS
    have e2 : D8 = drn Wf (r + 1) := by rw [hS1.out, dr_eight, hD8.out, hD7.out, hD6.out, hD5.out, hD4.out, hD3.out, hD2.out, hD1.out]
    rw [e2] at HK21
    clear e2
    go_wp2_with fail
    go_roundw
    case rel =>
     exact ⟨r + 1, hR.out, by first | rfl | go_num, HK21.out⟩
    exact measI 10 _ hR.out
   obtain rfl : r = 10 := by omega
   try simp only [Int.cast_ofNat_Int]
   obtain ⟨Yf, hYf⟩ := nm (drn Wf 10)
   rw [← hYf] at HK5
   replace hYf := hDx hYf
   go_upto_region 20 with fail
   have hm6 := (HK5.out.made (.cells (lk .u8 (zi 64)) 5))
   obtain ⟨O, hgO⟩ := nm wr.heap.size
   obtain ⟨ww6, hv6⟩ := nm (World.alloc wr (.cells (lk .u8 (zi 64)) 5))
   rw [← hv6, ← hgO] at hm6
   rw [← hv6]
   try rw [← hgO]
   have HK6 : Hid (KS [(O, .cells (lk .u8 (rw_ 64 (fun _ => 0))) 5), (Y, .cells (lk .u32 (rw_ 16 Yf)) 130), (X, .cells (lk .u32 (rw_ 16 Wf)) 130), (NBB, .cells #[.int .u8 (b0 : Int), .int .u8 (b1 : Int), .int .u8 (b2 : Int), .int .u8 (b3 : Int)] 5)] [] w ww6) := hDx hm6
   clear hm6 hv6 hgO
   clear hmk
   rw [← oK_zero Wf Yf] at HK6
   go_upto_region 21 with fail
   go_loopw [13] (fun vS wr => ∃ i : Nat, i ≤ 64 ∧ vS = .int .i64 (i : Int) ∧ KS [(O, .cells (lk .u8 (rw_ 64 (oK Wf Yf i))) 5), (Y, .cells (lk .u32 (rw_ 16 Yf)) 130), (X, .cells (lk .u32 (rw_ 16 Wf)) 130), (NBB, .cells #[.int .u8 (b0 : Int), .int .u8 (b1 : Int), .int .u8 (b2 : Int), .int .u8 (b3 : Int)] 5)] [] w wr) (fun vS _ => 64 - (intOf vS).toNat)
   case atStart => exact ⟨0, Nat.zero_le _, rfl, HK6.out⟩
   obtain ⟨i, hi, rfl, HK⟩ := hrel
   have HK7 := hDx HK
   clear HK
   by_cases hlt : i < 64
   ·have hi1 : (0 : Int) ≤ i := by omega
    have hi2 : (i : Int) < 64 := by omega
    obtain ⟨hi3, hi4⟩ := i64w (x := (i : Int) + 1) (n := i + 1) (by omega) (by omega)
    obtain ⟨q, m, e, hq, hm, him, h4, hq16, hq0, hq1, hquo, hrem, he, he1, he2, he3, he4⟩ := div4_i i hlt
    obtain ⟨ss, zz, oo, hadd, hsh, hcv8, es⟩ := oStep Wf Yf i q m e hlt hq hm h4 he
    have a0 : ia (rw_ 16 Wf) q = (Wf q : Int) := rw_at' _ _ _ hq16
    have a1 : ia (rw_ 16 Yf) q = (Yf q : Int) := rw_at' _ _ _ hq16
    obtain ⟨A0, hA0⟩ := nm (Wf q)
    obtain ⟨A1, hA1⟩ := nm (Yf q)
    rw [← hA0] at a0 hadd
    rw [← hA1] at a1 hadd
    obtain ⟨V, hV⟩ := nm (rw_ 64 (oK Wf Yf i))
    have lV : V.length = 64 := by rw [hV, rw_len']
    rw [← hV] at HK7
    rw [← hV] at es
    replace es := hDx es
    have hL := hDx hlt
    have lX : (rw_ 16 Wf).length = 16 := rw_len' _ _
    have lY : (rw_ 16 Yf).length = 16 := rw_len' _ _
    clear hV hA0 hA1 hq hm him h4 he he4
    go_upto_region 23 with fail
    try simp only [Act.put, sAx, s0x, s1x]
    refine wp_region_cv 17 [72, 73, 74, 75, 76, 77, 78, 79, 80, 81, 82, 83, 84, 85, 86, 87, 88] [[], [], [], [74], [75], [76], [], [78], [79], [80], [77, 81], [], [83], [84], [85], [82, 86], [87]] [(72, .slice (some ⟨O, 0, none⟩) 64 64), (73, .int .i64 (i : Int)), (74, .int .i64 (i : Int)), (75, .int .i64 (q : Int)), (76, .pointer (some ⟨X, q, none⟩)), (77, .int .u32 (A0 : Int)), (78, .int .i64 (i : Int)), (79, .int .i64 (q : Int)), (80, .pointer (some ⟨Y, q, none⟩)), (81, .int .u32 (A1 : Int)), (82, .int .u32 (ss : Int)), (83, .int .i64 (i : Int)), (84, .int .i64 (m : Int)), (85, .int .i64 (e : Int)), (86, .int .u64 (e : Int)), (87, .int .u32 (zz : Int)), (88, .int .u8 (oo : Int))] rfl (by kernel_rfl) (by kernel_rfl) (by rfl) (by kernel_rfl) ?hO ?hE
    case hO =>
     refine ⟨?_, ?_, ?_, ?_, ?_, ?_, ?_, ?_, ?_, ?_, ?_, ?_, ?_, ?_, ?_, ?_, ?_, trivial⟩
     ·intro act u HB HO HA
      have e12 := gE (x := .slice (some ⟨O, 0, none⟩) 64 64) (HO 12 (by decide))
      refine calm_val 72 _ rfl ?_ rfl rfl
      clear HB HO HA
      go_simp
      try rfl
     ·intro act u HB HO HA
      have e13 := gE (x := .int .i64 (i : Int)) (HO 13 (by decide))
      refine calm_val 73 _ rfl ?_ rfl rfl
      clear HB HO HA
      go_simp
      try rfl
     ·intro act u HB HO HA
      have e13 := gE (x := .int .i64 (i : Int)) (HO 13 (by decide))
      refine calm_val 74 _ rfl ?_ rfl rfl
      clear HB HO HA
      go_simp
      try rfl
     ·intro act u HB HO HA
      have e74 : _ = _ := qA HA 74
      exact calm_val 75 _ rfl (run_bin rfl e74 rfl hquo) rfl rfl
     ·intro act u HB HO HA
      have e8 := gE (x := .pointer (some ⟨X, 0, none⟩)) (HO 8 (by decide))
      have e75 : _ = _ := gE (qA HA 75)
      refine calm_val 76 _ rfl ?_ rfl rfl
      clear HB HO HA
      go_simp
      try rfl
     ·intro act u HB HO HA
      have e76 : _ = _ := gE (qA HA 76)
      have HS := HK7.out.drew.call HB
      have lT : u.cell? ⟨X, q, none⟩ = some (.int .u32 (A0 : Int)) := by
       have q := (HS.rk 2 rfl lX).cell q hq16
       rw [a0] at q
       exact q
      refine calm_val 77 _ rfl ?_ rfl rfl
      clear HB HO HA HS
      go_simp
      try rfl
     ·intro act u HB HO HA
      have e13 := gE (x := .int .i64 (i : Int)) (HO 13 (by decide))
      refine calm_val 78 _ rfl ?_ rfl rfl
      clear HB HO HA
      go_simp
      try rfl
     ·intro act u HB HO HA
      have e78 : _ = _ := qA HA 78
      exact calm_val 79 _ rfl (run_bin rfl e78 rfl hquo) rfl rfl
     ·intro act u HB HO HA
      have e10 := gE (x := .pointer (some ⟨Y, 0, none⟩)) (HO 10 (by decide))
      have e79 : _ = _ := gE (qA HA 79)
      refine calm_val 80 _ rfl ?_ rfl rfl
      clear HB HO HA
      go_simp
      try rfl
     ·intro act u HB HO HA
      have e80 : _ = _ := gE (qA HA 80)
      have HS := HK7.out.drew.call HB
      have lT : u.cell? ⟨Y, q, none⟩ = some (.int .u32 (A1 : Int)) := by
       have q := (HS.rk 1 rfl lY).cell q hq16
       rw [a1] at q
       exact q
      refine calm_val 81 _ rfl ?_ rfl rfl
      clear HB HO HA HS
      go_simp
      try rfl
     ·intro act u HB HO HA
      have e77 : _ = _ := gE (qA HA 77)
      have e81 : _ = _ := gE (qA HA 81)
      refine calm_val 82 _ rfl ?_ rfl rfl
      clear HB HO HA
      go_simp
      try rfl
     ·intro act u HB HO HA
      have e13 := gE (x := .int .i64 (i : Int)) (HO 13 (by decide))
      refine calm_val 83 _ rfl ?_ rfl rfl
      clear HB HO HA
      go_simp
      try rfl
     ·intro act u HB HO HA
      have e83 : _ = _ := qA HA 83
      exact calm_val 84 _ rfl (run_bin rfl e83 rfl hrem) rfl rfl
     ·intro act u HB HO HA
      have e84 : _ = _ := gE (qA HA 84)
      refine calm_val 85 _ rfl ?_ rfl rfl
      clear HB HO HA
      go_simp
      try rfl
     ·intro act u HB HO HA
      have e85 : _ = _ := gE (qA HA 85)
      refine calm_val 86 _ rfl ?_ rfl rfl
      clear HB HO HA
      go_simp
      try rfl
     ·intro act u HB HO HA
      have e82 : _ = _ := qA HA 82
      have e86 : _ = _ := qA HA 86
      exact calm_val 87 _ rfl (run_shift rfl e82 e86 (Or.inl rfl) hsh) rfl rfl
     intro act u HB HO HA
     have e87 : _ = _ := gE (qA HA 87)
     refine calm_val 88 _ rfl ?_ rfl rfl
     clear HB HO HA
     go_simp
     try rfl
    intro ww8 HB
    have HK8 := hDx (HK7.out.drew.call HB)
    simp only [fillL, Act.put, sAx, s0x, s1x, dSx, d0x]
    clear HB
    clear hadd hsh hcv8 a0 a1 hquo hrem he1 he2 he3 lX lY hq0 hq1
    have z0 := (HK8.out.rk 0 rfl lV).fz
    have c0 := (HK8.out.rk 0 rfl lV).cell i hlt
    go_upto_region 22 with fail
    obtain ⟨ww9, hv9⟩ := nm (World.setCell ww8 ⟨O, i, none⟩ (.int .u8 ((oo : Int))))
    have HK9 : Hid (KS [(O, .cells (lk .u8 (V.set i (oo : Int))) 5), (Y, .cells (lk .u32 (rw_ 16 Yf)) 130), (X, .cells (lk .u32 (rw_ 16 Wf)) 130), (NBB, .cells #[.int .u8 (b0 : Int), .int .u8 (b1 : Int), .int .u8 (b2 : Int), .int .u8 (b3 : Int)] 5)] [] w ww9) := by rw [hv9]; exact hDx (HK8.out.setK 0 rfl i ((oo : Int)))
    rw [← hv9]
    clear hv9
    rw [← es.out] at HK9
    clear es lV z0 c0 hlt
    go_wp2_with fail
    go_roundw
    case rel =>
     exact ⟨i + 1, hL.out, by first | rfl | go_num, HK9.out⟩
    exact measI 64 _ hL.out
   obtain rfl : i = 64 := by omega
   try simp only [Int.cast_ofNat_Int]
   have eO : rw_ 64 (oK Wf Yf 64) = rw_ 64 (blkF S) := by rw [oK_all, hYf.out, hWf.out]; rfl
   rw [eO] at HK7
   clear eO
   have hcv := (HK7.out.rk 0 rfl (rw_len' _ _)).conv 64
   rw [← hRES2.out] at hcv
   go_wp2_with fail
   go_ret
   exact ⟨rfl, HK7.out.below⟩
end Go.Proofs.YtoplbfijodebmaaGreatDoor
