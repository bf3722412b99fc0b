/-
  The walk.
-/
import Derived.Test.YtoplbfijodebmaaGreatDoorM35SA
set_option linter.unusedVariables false
set_option linter.unusedSimpArgs false
set_option maxRecDepth 100000
set_option maxHeartbeats 40000000
namespace Go.Proofs.YtoplbfijodebmaaGreatDoor
open Go.RowKit T
def r0 (key : ByteArray) (k j : Nat) : Nat := if j < k then bt key j else 0
def rA (key : ByteArray) (k j : Nat) : Nat := if j < 16 then kA key k j else 0
def rB (key : ByteArray) (k j : Nat) : Nat := if j < 16 then kB key k j else 0
def rR (key : ByteArray) : Nat → Nat := rB key 3
theorem r0_all (key : ByteArray) : rw_ 18 (r0 key 16) = rw_ 18 (rA key 0) := rw_ext fun j _ => by
 unfold r0 rA kA
 by_cases h : j < 16
 ·rw [if_pos h, if_pos h, if_neg (by omega)]
 ·rw [if_neg h, if_neg h]
theorem rA_all (key : ByteArray) : rw_ 18 (rA key 4) = rw_ 18 (rB key 0) := rw_ext fun j _ => by
 unfold rA rB
 by_cases h : j < 16
 ·rw [if_pos h, if_pos h]
  unfold kA kB
  by_cases h2 : j % 4 = 3
  ·rw [if_pos (by omega), if_pos (by omega)]
  ·rw [if_neg (by omega), if_neg (by omega), if_neg (by omega)]
 ·rw [if_neg h, if_neg h]
theorem ra_i (key : ByteArray) (k : Nat) (hk : k < 4) : ∃ i b v : Nat, i = 3 + 4 * k ∧ i < 18 ∧ (0 : Int) ≤ i ∧ (i : Int) < 18 ∧ (i : Int) < 16 ∧ IntKind.i64.wrap ((i : Int) + 4) = ((3 + 4 * (k + 1) : Nat) : Int) ∧ wrap64 ((i : Int) + 4) = ((3 + 4 * (k + 1) : Nat) : Int) ∧ bits .and .u64 (b : Int) 15 = (v : Int) ∧ rw_ 18 (rA key (k + 1)) = (rw_ 18 (rA key k)).set i (v : Int) ∧ ia (rw_ 18 (rA key k)) i = (b : Int) ∧ 20 - (intOf (.int .i64 ((3 + 4 * (k + 1) : Nat) : Int))).toNat < 20 - (intOf (.int .i64 (i : Int))).toNat := by
 obtain ⟨a1, a2⟩ := i64w (x := ((3 + 4 * k : Nat) : Int) + 4) (n := 3 + 4 * (k + 1)) (by omega) (by omega)
 have hb := bt_lt key (3 + 4 * k)
 refine ⟨3 + 4 * k, bt key (3 + 4 * k), bt key (3 + 4 * k) &&& 15, rfl, by omega, by omega, by omega, by omega, a2, a1, u64_and_nat _ 15 (by omega) (by decide), ?_, ?_, ?_⟩
 ·rw [rw_set]
  refine rw_ext fun j _ => ?_
  unfold rA upd
  by_cases e : j = 3 + 4 * k
  ·subst e; rw [if_pos (by omega), if_pos rfl]; unfold kA; rw [if_pos (by omega)]
  rw [if_neg e]
  simp only []
  by_cases h : j < 16
  ·rw [if_pos h, if_pos h]
   unfold kA
   by_cases h2 : j % 4 = 3 ∧ j < 4 * k
   ·rw [if_pos (by omega), if_pos h2]
   rw [if_neg (by omega), if_neg h2]
  rw [if_neg h, if_neg h]
 ·rw [rw_at' _ _ _ (by omega)]
  unfold rA kA
  rw [if_pos (by omega), if_neg (by omega)]
 simp only [intOf, Int.toNat_natCast]
 omega
theorem rb_i (key : ByteArray) (k : Nat) (hk : k < 3) : ∃ i b v : Nat, i = 4 + 4 * k ∧ i < 18 ∧ (0 : Int) ≤ i ∧ (i : Int) < 18 ∧ (i : Int) < 16 ∧ IntKind.i64.wrap ((i : Int) + 4) = ((4 + 4 * (k + 1) : Nat) : Int) ∧ wrap64 ((i : Int) + 4) = ((4 + 4 * (k + 1) : Nat) : Int) ∧ bits .and .u64 (b : Int) 252 = (v : Int) ∧ rw_ 18 (rB key (k + 1)) = (rw_ 18 (rB key k)).set i (v : Int) ∧ ia (rw_ 18 (rB key k)) i = (b : Int) ∧ 20 - (intOf (.int .i64 ((4 + 4 * (k + 1) : Nat) : Int))).toNat < 20 - (intOf (.int .i64 (i : Int))).toNat := by
 obtain ⟨a1, a2⟩ := i64w (x := ((4 + 4 * k : Nat) : Int) + 4) (n := 4 + 4 * (k + 1)) (by omega) (by omega)
 have hb := bt_lt key (4 + 4 * k)
 refine ⟨4 + 4 * k, bt key (4 + 4 * k), bt key (4 + 4 * k) &&& 252, rfl, by omega, by omega, by omega, by omega, a2, a1, u64_and_nat _ 252 (by omega) (by decide), ?_, ?_, ?_⟩
 ·rw [rw_set]
  refine rw_ext fun j _ => ?_
  unfold rB upd
  by_cases e : j = 4 + 4 * k
  ·subst e; rw [if_pos (by omega), if_pos rfl]; unfold kB; rw [if_neg (by omega), if_pos (by omega)]
  rw [if_neg e]
  simp only []
  by_cases h : j < 16
  ·rw [if_pos h, if_pos h]
   unfold kB
   by_cases h2 : j % 4 = 3 ∧ j < 16
   ·rw [if_pos h2, if_pos h2]
   rw [if_neg h2, if_neg h2]
   by_cases h3 : j % 4 = 0 ∧ 0 < j ∧ j < 4 + 4 * k
   ·rw [if_pos (by omega), if_pos h3]
   rw [if_neg (by omega), if_neg h3]
  rw [if_neg h, if_neg h]
 ·rw [rw_at' _ _ _ (by omega)]
  unfold rB kB
  rw [if_pos (by omega), if_neg (by omega), if_neg (by omega)]
 simp only [intOf, Int.toNat_natCast]
 omega
theorem rR_le (key : ByteArray) : ∀ j, j < 18 → rR key j ≤ 255 := fun j _ => by
 have := pkB_lt key j
 unfold pkB at this
 unfold rR rB
 split <;> omega
theorem rR_eq (key : ByteArray) (j : Nat) (hj : j < 16) : rR key j = pkB key j := by
 show rB key 3 j = kB key 3 j
 unfold rB
 rw [if_pos hj]
theorem rR_up (key : ByteArray) (j : Nat) : rR key (16 + j) = 0 := by
 show rB key 3 (16 + j) = 0
 unfold rB
 rw [if_neg (by omega)]
theorem vs_pad {b m : Nat} {f g : Nat → Nat} (h1 : ∀ j, j < m → f j = g j) (h2 : ∀ j, f (m + j) = 0) : ∀ d, vs b f (m + d) = vs b g m
 | 0 => vs_ext m h1
 | d + 1 => by rw [← Nat.add_assoc, vs, vs_pad h1 h2 d, h2 d, Nat.zero_mul, Nat.add_zero]
theorem vs_pad2 {b m n d : Nat} {f g : Nat → Nat} (hn : n = m + d) (h1 : ∀ j, j < m → f j = g j) (h2 : ∀ j, f (m + j) = 0) : vs b f n = vs b g m := by
 rw [hn]; exact vs_pad h1 h2 d
theorem RN_def (key : ByteArray) : RN key = vs 256 (pkB key) 16 := by unfold RN; with_reducible rfl
theorem rR_v (key : ByteArray) : vs 256 (rR key) 18 = RN key := by
 rw [RN_def]
 exact vs_pad2 (d := 2) rfl (rR_eq key) (rR_up key)
def aR (hn : Nat) (s : ByteArray) (k j : Nat) : Nat := lim 256 hn j + ofC (fun i => bt s (16 * k + i)) (chE s.size k) (chE s.size k) j
def hNn (key s : ByteArray) : Nat → Nat
 | 0 => 0
 | k + 1 => cN (mdR (cN (aR (hNn key s k) s k) * RN key))
theorem aR_bq (hn : Nat) (s : ByteArray) (k : Nat) : Bq (aR hn s k) := Bq.of fun j _ => by
 have h1 := lim_lt (b := 256) (by decide) hn j
 have h2 := ofC_lt (c := fun i => bt s (16 * k + i)) (fun _ => bt_lt _ _) (chE s.size k) (chE s.size k) j
 unfold aR
 omega
theorem aR_v {hn : Nat} (h : hn < 1361129467683753853853498429727072845824) (s : ByteArray) (k : Nat) : vs 256 (aR hn s k) 18 = hn + pcV s k := by
 have h1 := vs_lin 256 1 (lim 256 hn) (ofC (fun i => bt s (16 * k + i)) (chE s.size k) (chE s.size k)) 18
 rw [Nat.one_mul, vs_lim18 h] at h1
 have h2 : vs 256 (aR hn s k) 18 = vs 256 (fun j => lim 256 hn j + 1 * ofC (fun i => bt s (16 * k + i)) (chE s.size k) (chE s.size k) j) 18 := vs_ext 18 fun j _ => by unfold aR; rw [Nat.one_mul]
 have hE := chE_le s.size k
 have h3 : vs 256 (ofC (fun i => bt s (16 * k + i)) (chE s.size k) (chE s.size k)) 18 = pcV s k := by
  show vs 256 (ofC (fun i => bt s (16 * k + i)) (chE s.size k) (chE s.size k)) 17 + ofC (fun i => bt s (16 * k + i)) (chE s.size k) (chE s.size k) 17 * 256 ^ 17 = _
  rw [ofC_v _ _ _ hE (.inr rfl)]
  have : ofC (fun i => bt s (16 * k + i)) (chE s.size k) (chE s.size k) 17 = 0 := by
   unfold ofC; rw [if_neg (by omega), if_neg (by omega)]
  rw [this, Nat.zero_mul, Nat.add_zero]
  rfl
 rw [h2, h1, h3]
theorem hNn_all (key s : ByteArray) : ∀ k, hNn key s k < 1361129467683753853853498429727072845824 ∧ hNn key s k % Q = PHn key s k
 | 0 => ⟨by show 0 < _; decide, rfl⟩
 | k + 1 => by
  obtain ⟨h1, h2⟩ := hNn_all key s k
  have hc := cN_lt (aR_bq (hNn key s k) s k)
  have hv : vs 256 (lim 256 (cN (aR (hNn key s k) s k))) 18 = cN (aR (hNn key s k) s k) := vs_lim18 hc
  have hr : vs 256 (rR key) 18 = RN key := rR_v key
  have ht := times_v (f := lim 256 (cN (aR (hNn key s k) s k))) (g := rR key) (by rw [hv]; exact hc) (by rw [hr]; exact Nat.lt_trans (RN_lt key) (by decide))
  rw [hv, hr] at ht
  refine ⟨ht.2, ?_⟩
  show cN (mdR (cN (aR (hNn key s k) s k) * RN key)) % Q = (PHn key s k + pcV s k) * RN key % Q
  rw [ht.1]
  have e : cN (aR (hNn key s k) s k) % Q = (PHn key s k + pcV s k) % Q := by
   rw [cN_mod, aR_v h1]
   conv => rhs; rw [Nat.add_mod, Nat.mod_eq_of_lt (PHn_lt key s k)]
   rw [Nat.add_mod, h2]
  rw [Nat.mul_mod, e, ← Nat.mul_mod]
theorem step_v (key s : ByteArray) (k : Nat) : hNn key s (k + 1) = cN (mdR (vs 256 (lim 256 (cN (aR (hNn key s k) s k))) 18 * vs 256 (rR key) 18)) := by
 rw [vs_lim18 (cN_lt (aR_bq _ _ _)), rR_v]; rfl
theorem lim_255 (n : Nat) : ∀ j, j < 18 → lim 256 n j ≤ 255 := fun j _ => by have := lim_lt (b := 256) (by decide) n j; omega
def aJ (hn : Nat) (s : ByteArray) (k i j : Nat) : Nat := if j < i then lim 256 hn j + bt s (16 * k + j) else lim 256 hn j
theorem aJ_i (hn : Nat) (s : ByteArray) (k i E : Nat) (hi : i < E) (hE : E ≤ 16) : ∃ x v : Nat, ia (rw_ 18 (aJ hn s k i)) i = (x : Int) ∧ IntKind.u64.wrap ((x : Int) + (bt s (16 * k + i) : Int)) = v ∧ rw_ 18 (aJ hn s k (i + 1)) = (rw_ 18 (aJ hn s k i)).set i (v : Int) ∧ i < 18 ∧ (i : Int) < 18 ∧ (0 : Int) ≤ i ∧ (i : Int) < E ∧ IntKind.i64.wrap ((i : Int) + 1) = ((i + 1 : Nat) : Int) ∧ wrap64 ((i : Int) + 1) = ((i + 1 : Nat) : Int) := by
 have h1 := lim_lt (b := 256) (by decide) hn i
 have h2 := bt_lt s (16 * k + i)
 have h3 := ifP_set 18 (fun j => lim 256 hn j + bt s (16 * k + j)) (lim 256 hn) i
 obtain ⟨b1, b2⟩ := i64w (x := (i : Int) + 1) (n := i + 1) (by omega) (by omega)
 refine ⟨lim 256 hn i, lim 256 hn i + bt s (16 * k + i), ?_, u64w (by omega) (by omega), h3, by omega, by omega, by omega, by omega, b2, b1⟩
 rw [rw_at' _ _ _ (by omega)]
 unfold aJ
 rw [if_neg (by omega)]
theorem aE_i (hn : Nat) (s : ByteArray) (k E : Nat) (hE : E = chE s.size k) (h0 : 0 < E) (h16 : E ≤ 16) : ∃ x v : Nat, ia (rw_ 18 (aJ hn s k E)) E = (x : Int) ∧ IntKind.u64.wrap ((x : Int) + 1) = v ∧ rw_ 18 (aR hn s k) = (rw_ 18 (aJ hn s k E)).set E (v : Int) ∧ E < 18 ∧ (E : Int) < 18 ∧ (0 : Int) ≤ E := by
 have h1 := lim_lt (b := 256) (by decide) hn E
 refine ⟨lim 256 hn E, lim 256 hn E + 1, ?_, u64w (by omega) (by omega), ?_, by omega, by omega, by omega⟩
 ·rw [rw_at' _ _ _ (by omega)]
  unfold aJ
  rw [if_neg (by omega)]
 rw [rw_set]
 refine rw_ext fun j _ => ?_
 unfold aR aJ upd ofC
 rw [← hE]
 by_cases e : j = E
 ·subst e; rw [if_neg (by omega), if_pos (by omega), if_pos rfl]
 rw [if_neg e]
 simp only []
 by_cases h : j < E
 ·rw [if_pos h, if_pos h]
 rw [if_neg h, if_neg (by omega), if_neg h, Nat.add_zero]
theorem rp_i (s : ByteArray) (k : Nat) (hk : k < nch s.size) (hN : s.size ≤ 200000) : ∃ A B E : Nat, A = 16 * k ∧ E = chE s.size k ∧ 0 < E ∧ E ≤ 16 ∧ (A : Int) < s.size ∧ (0 : Int) ≤ A ∧ IntKind.i64.wrap ((A : Int) + 16) = B ∧ wrap64 ((A : Int) + 16) = B ∧ B = 16 * (k + 1) ∧ (s.extract A (A + E)).size = E ∧ (∀ j, j < E → bt (s.extract A (A + E)) j = bt s (16 * k + j)) ∧ s.size + 16 - (intOf (.int .i64 (B : Int))).toNat < s.size + 16 - (intOf (.int .i64 (A : Int))).toNat ∧
  (((B : Int) ≤ s.size ∧ ¬ (s.size : Int) < B ∧ A + E = B ∧ (A : Int) ≤ B ∧ (0 : Int) ≤ B) ∨ (¬ (B : Int) ≤ s.size ∧ (s.size : Int) < B ∧ A + E = s.size ∧ (A : Int) ≤ s.size ∧ (0 : Int) ≤ s.size)) := by
 unfold nch at hk
 obtain ⟨b1, b2⟩ := i64b (x := ((16 * k : Nat) : Int) + 16) (n := 16 * (k + 1)) (by omega) (by omega)
 have hE : chE s.size k ≤ 16 ∧ 0 < chE s.size k ∧ 16 * k + chE s.size k ≤ s.size := by unfold chE; omega
 refine ⟨16 * k, 16 * (k + 1), chE s.size k, rfl, rfl, hE.2.1, hE.1, by omega, by omega, b2, b1, rfl, ?_, fun j hj => bt_ext (by omega) (by omega), ?_, ?_⟩
 ·rw [ByteArray.size_extract]; omega
 ·simp only [intOf, Int.toNat_natCast]; omega
 by_cases h : 16 * (k + 1) ≤ s.size
 ·left; unfold chE; omega
 right; unfold chE; omega
theorem nch_end (N k : Nat) (hk : k ≤ nch N) (h : ¬ k < nch N) : k = nch N ∧ ¬ ((16 * k : Nat) : Int) < N := by
 unfold nch at *
 omega
theorem rtg_i (key : ByteArray) (N i : Nat) (hi : i < 16) : ∃ c x kb j16 y v w1 cn : Nat, cS N (SN key) i = c ∧ ia (rw_ 18 (lim 256 N)) i = (x : Int) ∧ bt key j16 = kb ∧ IntKind.i64.wrap (16 + (i : Int)) = j16 ∧ wrap64 (16 + (i : Int)) = j16 ∧ (0 : Int) ≤ j16 ∧ (j16 : Int) < 32 ∧ j16 < 32 ∧ IntKind.u64.wrap (kb : Int) = kb ∧ IntKind.u64.wrap ((x : Int) + (kb : Int)) = y ∧ IntKind.u64.wrap ((y : Int) + (c : Int)) = v ∧ IntKind.u8.wrap (v : Int) = w1 ∧ (v : Int) / 256 = cn ∧ cS N (SN key) (i + 1) = cn ∧ rw_ 16 (tK (N + SN key) (i + 1)) = (rw_ 16 (tK (N + SN key) i)).set i (w1 : Int) ∧ i < 18 ∧ (i : Int) < 18 := by
 obtain ⟨hs1, hs2⟩ := cS_step N (SN key) i
 have hx := lim_lt (b := 256) (by decide) N i
 have hk := bt_lt key (16 + i)
 have hc := cS_le N (SN key) i
 rw [SN_byte key i hi] at hs1 hs2
 obtain ⟨b1, b2⟩ := i64w (x := 16 + (i : Int)) (n := 16 + i) (by omega) (by omega)
 have hset := tK_set 16 (N + SN key) i
 rw [← hs1] at hset
 refine ⟨cS N (SN key) i, lim 256 N i, bt key (16 + i), 16 + i, lim 256 N i + bt key (16 + i), cS N (SN key) i + (lim 256 N i + bt key (16 + i)), (cS N (SN key) i + (lim 256 N i + bt key (16 + i))) % 256, cS N (SN key) (i + 1), rfl, rw_at' _ _ _ (by omega), rfl, b2, b1, by omega, by omega, by omega, u64w rfl (by omega), u64w (by omega) (by omega), u64w (by omega) (by omega), u8wm _, ?_, rfl, hset, by omega, by omega⟩
 rw [← hs2]
 omega
theorem r0_i (key : ByteArray) (i : Nat) (hi : i < 16) : rw_ 18 (r0 key (i + 1)) = (rw_ 18 (r0 key i)).set i (bt key i : Int) ∧ i < 18 ∧ (i : Int) < 18 := ⟨ifP_set 18 (bt key) (fun _ => 0) i, by omega, by omega⟩
theorem ag127 : AgTy 127 18 := agTy (by kernel_rfl)
theorem ext18 (f : Nat → Nat) : (lk .u64 (rw_ 18 f)).extract 0 (0 + 18) = lk .u64 (rw_ 18 f) := by
 have h : (lk .u64 (rw_ 18 f)).size = 0 + 18 := by rw [lk_size, rw_len']
 rw [← h, Array.extract_size]
theorem sz18 (f : Nat → Nat) : (lk .u64 (rw_ 18 f)).size = 18 := by rw [lk_size, rw_len']
theorem lim_zero18 : rw_ 18 (lim 256 0) = rw_ 18 (fun _ => 0) := rw_ext fun j _ => by unfold lim; simp
theorem rtag_any (key s : ByteArray) (w : World) (h32 : key.size = 32) (hs : s.size ≤ 200000) :
  Calls Tryz.prog 46 #[.string key, .string s] w fun e w' => e = .returned (.tuple #[.string (tagS key s), .int .i64 0]) ∧ Below w.heap.size w w' := by
 have h32i : (key.size : Int) = 32 := by rw [h32]; rfl
 have hmk := fun w => make_u8 16 (by decide) w
 simp only [Int.cast_ofNat_Int] at hmk
 have HH := hDx (And.intro h32 hs)
 clear h32 hs
 go_enter Tryz.func46, Tryz.ntmps46
 have HK0 := hDx (KS.start w)
 go_upto_region 4 with fail
 have hm1 := (HK0.out.made (.cells ZRu64x18 127))
 obtain ⟨R, hgR⟩ := nm w.heap.size
 obtain ⟨ww1, hv1⟩ := nm (World.alloc w (.cells ZRu64x18 127))
 rw [← hv1, ← hgR] at hm1
 rw [← hv1]
 try rw [← hgR]
 have HK1 : Hid (KS [(R, .cells (lk .u64 (rw_ 18 (r0 key 0))) 127)] [] w ww1) := hDx hm1
 clear hm1 hv1 hgR
 go_upto_region 5 with fail
 go_loopw [7] (fun vS wr => ∃ i : Nat, i ≤ 16 ∧ vS = .int .i64 (i : Int) ∧ KS [(R, .cells (lk .u64 (rw_ 18 (r0 key i))) 127)] [] w wr) (fun vS _ => 16 - (intOf vS).toNat)
 case atStart => exact ⟨0, Nat.zero_le _, rfl, HK1.out⟩
 case round =>
  obtain ⟨i, hi, rfl, HK⟩ := hrel
  have HK2 := hDx HK
  clear HK
  by_cases hlt : i < 16
  ·have hi1 : (0 : Int) ≤ i := by omega
   have hi2 : (i : Int) < 16 := by omega
   obtain ⟨hi3, hi4⟩ := i64w (x := (i : Int) + 1) (n := i + 1) (by omega) (by omega)
   have ks := fun u => idxS (s := key) (k := i) (by rw [HH.out.1]; exact Nat.lt_trans hlt (by decide)) u
   obtain ⟨es, i18, i18'⟩ := r0_i key i hlt
   have hb := bt64 key i
   obtain ⟨b, hbb⟩ := nm (bt key i)
   rw [← hbb] at ks es hb
   obtain ⟨V, hV⟩ := nm (rw_ 18 (r0 key i))
   have lV : V.length = 18 := by rw [hV, rw_len']
   rw [← hV] at HK2
   rw [← hV] at es
   have z0 := (HK2.out.rk 0 rfl lV).fz
   have c0 := (HK2.out.rk 0 rfl lV).cell i i18
   have HJ := hDx (And.intro es hlt)
   clear es hV hlt i18 hbb
   go_upto_region 6 with fail
   obtain ⟨ww3, hv3⟩ := nm (World.setCell wr ⟨R, i, none⟩ (.int .u64 ((b : Int))))
   have HK3 : Hid (KS [(R, .cells (lk .u64 (V.set i (b : Int))) 127)] [] w ww3) := by rw [hv3]; exact hDx (HK2.out.setK 0 rfl i ((b : Int)))
   rw [← hv3]
   clear hv3
   rw [← HJ.out.1] at HK3
   clear c0 z0 ks hb
   go_wp2_with fail
   go_roundw
   case rel =>
    exact ⟨i + 1, HJ.out.2, by first | rfl | go_num, HK3.out⟩
   case measure => exact measI 16 _ HJ.out.2
  obtain rfl : i = 16 := by omega
  try simp only [Int.cast_ofNat_Int]
  rw [r0_all] at HK2
  go_upto_region 9 with fail
  go_loopw [8] (fun vS wr => ∃ k : Nat, k ≤ 4 ∧ vS = .int .i64 ((3 + 4 * k : Nat) : Int) ∧ KS [(R, .cells (lk .u64 (rw_ 18 (rA key k))) 127)] [] w wr) (fun vS _ => 20 - (intOf vS).toNat)
  case atStart => exact ⟨0, Nat.zero_le _, rfl, HK2.out⟩
  case round =>
   obtain ⟨k, hk, rfl, HK⟩ := hrel
   have HK3 := hDx HK
   clear HK
   by_cases hlt : k < 4
   ·obtain ⟨i, b, v, hi, i18, g1, g2, g3, g4, g5, hand, es, ha, hm⟩ := ra_i key k hlt
    rw [← hi]
    obtain ⟨V, hV⟩ := nm (rw_ 18 (rA key k))
    have lV : V.length = 18 := by rw [hV, rw_len']
    rw [← hV] at HK3
    rw [← hV] at es ha
    have c0 := (HK3.out.rk 0 rfl lV).cell i i18
    rw [ha] at c0
    have z0 := (HK3.out.rk 0 rfl lV).fz
    have HJ := hDx (And.intro es (And.intro hlt hm))
    clear hi hV es ha hlt hm hk i18
    go_upto_region 10 with fail
    obtain ⟨ww4, hv4⟩ := nm (World.setCell wr ⟨R, i, none⟩ (.int .u64 ((v : Int))))
    have HK4 : Hid (KS [(R, .cells (lk .u64 (V.set i (v : Int))) 127)] [] w ww4) := by rw [hv4]; exact hDx (HK3.out.setK 0 rfl i ((v : Int)))
    rw [← hv4]
    clear hv4
    rw [← HJ.out.1] at HK4
    clear c0 z0 hand lV
    go_wp2_with fail
    go_roundw
    case rel => exact ⟨k + 1, HJ.out.2.1, by first | rfl | go_num, HK4.out⟩
    case measure => exact HJ.out.2.2
   obtain rfl := ka_end k hk hlt
   clear hk hlt
   rw [rA_all] at HK3
   go_upto_region 13 with fail
   go_loopw [9] (fun vS wr => ∃ k : Nat, k ≤ 3 ∧ vS = .int .i64 ((4 + 4 * k : Nat) : Int) ∧ KS [(R, .cells (lk .u64 (rw_ 18 (rB key k))) 127)] [] w wr) (fun vS _ => 20 - (intOf vS).toNat)
   case atStart => exact ⟨0, Nat.zero_le _, rfl, HK3.out⟩
   case round =>
    obtain ⟨k, hk, rfl, HK⟩ := hrel
    have HK4 := hDx HK
    clear HK
    by_cases hlt : k < 3
    ·obtain ⟨i, b, v, hi, i18, g1, g2, g3, g4, g5, hand, es, ha, hm⟩ := rb_i key k hlt
     rw [← hi]
     obtain ⟨V, hV⟩ := nm (rw_ 18 (rB key k))
     have lV : V.length = 18 := by rw [hV, rw_len']
     rw [← hV] at HK4
     rw [← hV] at es ha
     have c0 := (HK4.out.rk 0 rfl lV).cell i i18
     rw [ha] at c0
     have z0 := (HK4.out.rk 0 rfl lV).fz
     have HJ := hDx (And.intro es (And.intro hlt hm))
     clear hi hV es ha hlt hm hk i18
     go_upto_region 14 with fail
     obtain ⟨ww5, hv5⟩ := nm (World.setCell wr ⟨R, i, none⟩ (.int .u64 ((v : Int))))
     have HK5 : Hid (KS [(R, .cells (lk .u64 (V.set i (v : Int))) 127)] [] w ww5) := by rw [hv5]; exact hDx (HK4.out.setK 0 rfl i ((v : Int)))
     rw [← hv5]
     clear hv5
     rw [← HJ.out.1] at HK5
     clear c0 z0 hand lV
     go_wp2_with fail
     go_roundw
     case rel => exact ⟨k + 1, HJ.out.2.1, by first | rfl | go_num, HK5.out⟩
     case measure => exact HJ.out.2.2
    obtain rfl := kb_end k hk hlt
    clear hk hlt
    change Hid (KS [(R, .cells (lk .u64 (rw_ 18 (rR key))) 127)] [] w wr) at HK4
    go_upto_region 17 with fail
    have hm5 := (HK4.out.made (.cells ZRu64x18 127))
    obtain ⟨H, hgH⟩ := nm wr.heap.size
    obtain ⟨ww5, hv5⟩ := nm (World.alloc wr (.cells ZRu64x18 127))
    rw [← hv5, ← hgH] at hm5
    rw [← hv5]
    try rw [← hgH]
    have HK5 : Hid (KS [(H, .cells (lk .u64 (rw_ 18 (fun _ => 0))) 127), (R, .cells (lk .u64 (rw_ 18 (rR key))) 127)] [] w ww5) := hDx hm5
    clear hm5 hv5 hgH
    rw [← lim_zero18] at HK5
    go_upto_region 18 with fail
    go_loopw [11] (fun vS wr => ∃ k : Nat, k ≤ nch s.size ∧ vS = .int .i64 ((16 * k : Nat) : Int) ∧ KS [(H, .cells (lk .u64 (rw_ 18 (lim 256 (hNn key s k)))) 127), (R, .cells (lk .u64 (rw_ 18 (rR key))) 127)] [] w wr) (fun vS _ => s.size + 16 - (intOf vS).toNat)
    case atStart => exact ⟨0, Nat.zero_le _, rfl, HK5.out⟩
    case round =>
     obtain ⟨k, hk, rfl, HK⟩ := hrel
     have HK6 := hDx HK
     clear HK
     by_cases hlt : k < nch s.size
     ·obtain ⟨A, B, E, hA, hE, hE0, hE16, g1, g2, g3, g4, hB, xsz, xbt, hm, hcase⟩ := rp_i s k hlt HH.out.2
      rw [← hA]
      obtain ⟨xs, hxs⟩ := nm (s.extract A (A + E))
      rw [← hxs] at xsz xbt
      obtain ⟨hn, hhn⟩ := nm (hNn key s k)
      have hst := step_v key s k
      rw [← hhn] at hst HK6
      have HL := hDx (And.intro hlt (And.intro hB (And.intro hm (And.intro hst (And.intro hE (And.intro hE0 hE16))))))
      have HX := hDx (And.intro xsz xbt)
      clear hlt hk hA hE hE0 hE16 hB xsz xbt hm hst hhn
      rcases hcase with ⟨m1, m2, m3, m4, m5⟩ | ⟨m1, m2, m3, m4, m5⟩
      ·rw [m3] at hxs
       replace hxs := hDx hxs
       clear m3
       go_upto_region 21 with fail
       clear m1 m2 m4 m5
       rw [← hxs.out]
       clear hxs
       go_upto_region 22 with fail
       have hxi : (xs.size : Int) = E := by rw [HX.out.1]
       go_loopw [13] (fun vS wr => ∃ j : Nat, j ≤ E ∧ vS = .int .i64 (j : Int) ∧ KS [(H, .cells (lk .u64 (rw_ 18 (aJ hn s k j))) 127), (R, .cells (lk .u64 (rw_ 18 (rR key))) 127)] [] w wr) (fun vS _ => E - (intOf vS).toNat)
       case atStart => exact ⟨0, Nat.zero_le _, rfl, by have q := HK6.out; exact q⟩
       obtain ⟨j, hj, rfl, HK⟩ := hrel
       have HK7 := hDx HK
       clear HK
       by_cases hlt : j < E
       ·obtain ⟨x, v, e1, k1, es, j18, j1, j2, j3, j4, j5⟩ := aJ_i hn s k j E hlt HL.out.2.2.2.2.2.2
        have ks := fun u => idxS (s := xs) (k := j) (by rw [HX.out.1]; exact hlt) u
        have hb := bt64 xs j
        rw [HX.out.2 j hlt] at ks hb
        obtain ⟨b, hbb⟩ := nm (bt s (16 * k + j))
        rw [← hbb] at ks hb k1
        obtain ⟨V, hV⟩ := nm (rw_ 18 (aJ hn s k j))
        have lV : V.length = 18 := by rw [hV, rw_len']
        rw [← hV] at HK7
        rw [← hV] at es e1
        have HJ := hDx (And.intro es (And.intro hlt j18))
        clear es hV hlt hbb hj
        go_upto_region 24 with fail
        try simp only [Act.put, sAx, s0x, s1x]
        refine wp_region_cv 9 [71, 72, 73, 74, 75, 76, 77, 78, 79] [[], [], [72], [73], [], [], [75, 76], [77], [74, 78]] [(71, .int .i64 (j : Int)), (72, .int .i64 (j : Int)), (73, .pointer (some ⟨H, j, none⟩)), (74, .int .u64 (x : Int)), (75, .string xs), (76, .int .i64 (j : Int)), (77, .int .u8 (b : Int)), (78, .int .u64 (b : Int)), (79, .int .u64 (v : Int))] rfl (by kernel_rfl) (by kernel_rfl) (by rfl) (by kernel_rfl) ?hO1 ?hE1
        case hO1 =>
         refine ⟨?_, ?_, ?_, ?_, ?_, ?_, ?_, ?_, ?_, trivial⟩
         ·intro act u HB HO HA
          have e13 := gE (x := .int .i64 (j : Int)) (HO 13 (by decide))
          refine calm_val 71 _ rfl ?_ rfl rfl
          clear HB HO HA
          go_simp
          try rfl
         ·intro act u HB HO HA
          have e13 := gE (x := .int .i64 (j : Int)) (HO 13 (by decide))
          refine calm_val 72 _ rfl ?_ rfl rfl
          clear HB HO HA
          go_simp
          try rfl
         ·intro act u HB HO HA
          have e10 := gE (x := .pointer (some ⟨H, 0, none⟩)) (HO 10 (by decide))
          have e72 : _ = _ := gE (qA HA 72)
          refine calm_val 73 _ rfl ?_ rfl rfl
          clear HB HO HA
          go_simp
          try rfl
         ·intro act u HB HO HA
          have e73 : _ = _ := gE (qA HA 73)
          have HS := HK7.out.drew.call HB
          have lT : u.cell? ⟨H, j, none⟩ = some (.int .u64 (x : Int)) := by
           have q := (HS.rk 0 rfl lV).cell j j18
           rw [e1] at q
           exact q
          refine calm_val 74 _ rfl ?_ rfl rfl
          clear HB HO HA HS
          go_simp
          try rfl
         ·intro act u HB HO HA
          have e12 := gE (x := .string xs) (HO 12 (by decide))
          refine calm_val 75 _ rfl ?_ rfl rfl
          clear HB HO HA
          go_simp
          try rfl
         ·intro act u HB HO HA
          have e13 := gE (x := .int .i64 (j : Int)) (HO 13 (by decide))
          refine calm_val 76 _ rfl ?_ rfl rfl
          clear HB HO HA
          go_simp
          try rfl
         ·intro act u HB HO HA
          have e75 : _ = _ := gE (qA HA 75)
          have e76 : _ = _ := gE (qA HA 76)
          have ks2 := ks u
          refine calm_val 77 _ rfl ?_ rfl rfl
          clear HB HO HA
          go_simp
          try rfl
         ·intro act u HB HO HA
          have e77 : _ = _ := gE (qA HA 77)
          refine calm_val 78 _ rfl ?_ rfl rfl
          clear HB HO HA
          go_simp
          try rfl
         intro act u HB HO HA
         have e74 : _ = _ := gE (qA HA 74)
         have e78 : _ = _ := gE (qA HA 78)
         refine calm_val 79 _ rfl ?_ rfl rfl
         clear HB HO HA
         go_simp
         try rfl
        intro ww8 HB
        have HK8 := hDx (HK7.out.drew.call HB)
        simp only [fillL, Act.put, sAx, s0x, s1x, dSx, d0x]
        clear HB
        clear k1 ks hb e1
        have z0 := (HK8.out.rk 0 rfl lV).fz
        have c0 := (HK8.out.rk 0 rfl lV).cell j j18
        clear j18
        go_upto_region 23 with fail
        obtain ⟨ww9, hv9⟩ := nm (World.setCell ww8 ⟨H, j, none⟩ (.int .u64 ((v : Int))))
        have HK9 : Hid (KS [(H, .cells (lk .u64 (V.set j (v : Int))) 127), (R, .cells (lk .u64 (rw_ 18 (rR key))) 127)] [] w ww9) := by rw [hv9]; exact hDx (HK8.out.setK 0 rfl j ((v : Int)))
        rw [← hv9]
        clear hv9
        rw [← HJ.out.1] at HK9
        clear c0 z0 lV
        go_wp2_with fail
        go_roundw
        case rel => exact ⟨j + 1, HJ.out.2.1, by first | rfl | go_num, HK9.out⟩
        case measure => exact mea_i E j HJ.out.2.1
       obtain rfl := Nat.le_antisymm hj (Nat.le_of_not_lt hlt)
       clear hj hlt
       obtain ⟨x, v, e1, k1, es, j18, j1, j2⟩ := aE_i hn s k j HL.out.2.2.2.2.1 HL.out.2.2.2.2.2.1 HL.out.2.2.2.2.2.2
       have c0 := (HK7.out.rk 0 rfl (rw_len' _ _)).cell j j18
       rw [e1] at c0
       obtain ⟨V, hV⟩ := nm (rw_ 18 (aJ hn s k j))
       have lV : V.length = 18 := by rw [hV, rw_len']
       rw [← hV] at HK7
       rw [← hV] at es
       have z0 := (HK7.out.rk 0 rfl lV).fz
       replace es := hDx es
       clear hV e1 j18
       go_upto_region 26 with fail
       obtain ⟨ww8, hv8⟩ := nm (World.setCell wr ⟨H, j, none⟩ (.int .u64 ((v : Int))))
       have HK8 : Hid (KS [(H, .cells (lk .u64 (V.set j (v : Int))) 127), (R, .cells (lk .u64 (rw_ 18 (rR key))) 127)] [] w ww8) := by rw [hv8]; exact hDx (HK7.out.setK 0 rfl j ((v : Int)))
       rw [← hv8]
       clear hv8
       rw [← es.out] at HK8
       clear es c0 z0 k1 lV
       have HB5 := hDx (aR_bq hn s k)
       obtain ⟨AR, hAR⟩ := nm (aR hn s k)
       rw [← hAR] at HK8 HB5
       have hst : hNn key s (k + 1) = cN (mdR (vs 256 (lim 256 (cN AR)) 18 * vs 256 (rR key) 18)) := by rw [hAR]; exact HL.out.2.2.2.1
       replace hst := hDx hst
       clear hAR
       try simp only [Act.put, sAx, s0x, s1x]
       refine wp_region_cv 4 [87, 88, 89, 90] [[], [87], [], [88, 89]] [(87, .agg (lk .u64 (rw_ 18 (AR)))), (88, .agg (lk .u64 (rw_ 18 (lim 256 (cN AR))))), (89, .agg (lk .u64 (rw_ 18 (rR key)))), (90, .agg (lk .u64 (rw_ 18 (lim 256 (cN (mdR (vs 256 (lim 256 (cN AR)) 18 * vs 256 (rR key) 18)))))))] rfl (by kernel_rfl) (by kernel_rfl) (by rfl) (by kernel_rfl) ?hO2 ?hE2
       case hO2 =>
        refine ⟨?_, ?_, ?_, ?_, trivial⟩
        ·intro act u HB HO HA
         have e10 : act.eval (.tmp 10) = .pointer (some ⟨H, 0, none⟩) := HO 10 (by decide)
         have HS := HK8.out.drew.call HB
         exact calm_lM 87 10 e10 (HS.get 0 rfl) ag127 (ext18 _) (sz18 _) rfl rfl rfl rfl
        ·intro act u HB HO HA
         have e87 : _ = _ := qA HA 87
         refine calm_call 88 #[.agg (lk .u64 (rw_ 18 (AR)))] rfl rfl ?_ (by kernel_rfl) (rcarry_any AR HB5.out u) ?_ rfl
         ·simp only [mTx, mCx, mNx, e87]
          try rfl
         rintro e u1 ⟨rfl, B1⟩
         exact ⟨_, rfl, rfl, B1⟩
        ·intro act u HB HO HA
         have e6 : act.eval (.tmp 6) = .pointer (some ⟨R, 0, none⟩) := HO 6 (by decide)
         have HS := HK8.out.drew.call HB
         exact calm_lM 89 6 e6 (HS.get 1 rfl) ag127 (ext18 _) (sz18 _) rfl rfl rfl rfl
        intro act u HB HO HA
        have e88 : _ = _ := qA HA 88
        have e89 : _ = _ := qA HA 89
        refine calm_call 90 #[.agg (lk .u64 (rw_ 18 (lim 256 (cN AR)))), .agg (lk .u64 (rw_ 18 (rR key)))] rfl rfl ?_ (by kernel_rfl) (rtimes_any (lim 256 (cN AR)) (rR key) (lim_255 _) (rR_le key) u) ?_ rfl
        ·simp only [mTx, mCx, mNx, e88, e89]
         try rfl
        rintro e u1 ⟨rfl, B1⟩
        exact ⟨_, rfl, rfl, B1⟩
       intro ww9 HB
       have HK9 := hDx (HK8.out.drew.call HB)
       simp only [fillL, Act.put, sAx, s0x, s1x, dSx, d0x]
       clear HB
       have FS := (HK9.out.rk 0 rfl (rw_len' _ _))
       go_upto_region 19 with (refine wpList_store_rk rfl _ _ rfl rfl rfl FS ty127 (rw_len' _ _) ?_)
       obtain ⟨ww10, hv10⟩ := nm (World.setRow ww9 H (lk .u64 (rw_ 18 (lim 256 (cN (mdR (vs 256 (lim 256 (cN AR)) 18 * vs 256 (rR key) 18)))))))
       have HK10 : Hid (KS [(H, .cells (lk .u64 (rw_ 18 (lim 256 (cN (mdR (vs 256 (lim 256 (cN AR)) 18 * vs 256 (rR key) 18)))))) 127), (R, .cells (lk .u64 (rw_ 18 (rR key))) 127)] [] w ww10) := by rw [hv10]; exact hDx (HK9.out.setRow 0 rfl _)
       rw [← hv10]
       clear hv10
       clear FS
       rw [← hst.out] at HK10
       go_wp2_with fail
       refine ⟨?_, ?measure⟩
       iterate 43 (apply Exists.intro)
       refine ⟨?rel, rfl⟩
       case rel => exact ⟨k + 1, HL.out.1, by rw [← HL.out.2.1], HK10.out⟩
       case measure => exact HL.out.2.2.1
      rw [m3] at hxs
      replace hxs := hDx hxs
      clear m3
      go_upto_region 21 with fail
      clear m1 m2 m4 m5
      rw [← hxs.out]
      clear hxs
      go_upto_region 22 with fail
      have hxi : (xs.size : Int) = E := by rw [HX.out.1]
      go_loopw [13] (fun vS wr => ∃ j : Nat, j ≤ E ∧ vS = .int .i64 (j : Int) ∧ KS [(H, .cells (lk .u64 (rw_ 18 (aJ hn s k j))) 127), (R, .cells (lk .u64 (rw_ 18 (rR key))) 127)] [] w wr) (fun vS _ => E - (intOf vS).toNat)
      case atStart => exact ⟨0, Nat.zero_le _, rfl, by have q := HK6.out; exact q⟩
      obtain ⟨j, hj, rfl, HK⟩ := hrel
      have HK7 := hDx HK
      clear HK
      by_cases hlt : j < E
      ·obtain ⟨x, v, e1, k1, es, j18, j1, j2, j3, j4, j5⟩ := aJ_i hn s k j E hlt HL.out.2.2.2.2.2.2
       have ks := fun u => idxS (s := xs) (k := j) (by rw [HX.out.1]; exact hlt) u
       have hb := bt64 xs j
       rw [HX.out.2 j hlt] at ks hb
       obtain ⟨b, hbb⟩ := nm (bt s (16 * k + j))
       rw [← hbb] at ks hb k1
       obtain ⟨V, hV⟩ := nm (rw_ 18 (aJ hn s k j))
       have lV : V.length = 18 := by rw [hV, rw_len']
       rw [← hV] at HK7
       rw [← hV] at es e1
       have HJ := hDx (And.intro es (And.intro hlt j18))
       clear es hV hlt hbb hj
       go_upto_region 24 with fail
       try simp only [Act.put, sAx, s0x, s1x]
       refine wp_region_cv 9 [71, 72, 73, 74, 75, 76, 77, 78, 79] [[], [], [72], [73], [], [], [75, 76], [77], [74, 78]] [(71, .int .i64 (j : Int)), (72, .int .i64 (j : Int)), (73, .pointer (some ⟨H, j, none⟩)), (74, .int .u64 (x : Int)), (75, .string xs), (76, .int .i64 (j : Int)), (77, .int .u8 (b : Int)), (78, .int .u64 (b : Int)), (79, .int .u64 (v : Int))] rfl (by kernel_rfl) (by kernel_rfl) (by rfl) (by kernel_rfl) ?hO3 ?hE3
       case hO3 =>
        refine ⟨?_, ?_, ?_, ?_, ?_, ?_, ?_, ?_, ?_, trivial⟩
        ·intro act u HB HO HA
         have e13 := gE (x := .int .i64 (j : Int)) (HO 13 (by decide))
         refine calm_val 71 _ rfl ?_ rfl rfl
         clear HB HO HA
         go_simp
         try rfl
        ·intro act u HB HO HA
         have e13 := gE (x := .int .i64 (j : Int)) (HO 13 (by decide))
         refine calm_val 72 _ rfl ?_ rfl rfl
         clear HB HO HA
         go_simp
         try rfl
        ·intro act u HB HO HA
         have e10 := gE (x := .pointer (some ⟨H, 0, none⟩)) (HO 10 (by decide))
         have e72 : _ = _ := gE (qA HA 72)
         refine calm_val 73 _ rfl ?_ rfl rfl
         clear HB HO HA
         go_simp
         try rfl
        ·intro act u HB HO HA
         have e73 : _ = _ := gE (qA HA 73)
         have HS := HK7.out.drew.call HB
         have lT : u.cell? ⟨H, j, none⟩ = some (.int .u64 (x : Int)) := by
          have q := (HS.rk 0 rfl lV).cell j j18
          rw [e1] at q
          exact q
         refine calm_val 74 _ rfl ?_ rfl rfl
         clear HB HO HA HS
         go_simp
         try rfl
        ·intro act u HB HO HA
         have e12 := gE (x := .string xs) (HO 12 (by decide))
         refine calm_val 75 _ rfl ?_ rfl rfl
         clear HB HO HA
         go_simp
         try rfl
        ·intro act u HB HO HA
         have e13 := gE (x := .int .i64 (j : Int)) (HO 13 (by decide))
         refine calm_val 76 _ rfl ?_ rfl rfl
         clear HB HO HA
         go_simp
         try rfl
        ·intro act u HB HO HA
         have e75 : _ = _ := gE (qA HA 75)
         have e76 : _ = _ := gE (qA HA 76)
         have ks2 := ks u
         refine calm_val 77 _ rfl ?_ rfl rfl
         clear HB HO HA
         go_simp
         try rfl
        ·intro act u HB HO HA
         have e77 : _ = _ := gE (qA HA 77)
         refine calm_val 78 _ rfl ?_ rfl rfl
         clear HB HO HA
         go_simp
         try rfl
        intro act u HB HO HA
        have e74 : _ = _ := gE (qA HA 74)
        have e78 : _ = _ := gE (qA HA 78)
        refine calm_val 79 _ rfl ?_ rfl rfl
        clear HB HO HA
        go_simp
        try rfl
       intro ww8 HB
       have HK8 := hDx (HK7.out.drew.call HB)
       simp only [fillL, Act.put, sAx, s0x, s1x, dSx, d0x]
       clear HB
       clear k1 ks hb e1
       have z0 := (HK8.out.rk 0 rfl lV).fz
       have c0 := (HK8.out.rk 0 rfl lV).cell j j18
       clear j18
       go_upto_region 23 with fail
       obtain ⟨ww9, hv9⟩ := nm (World.setCell ww8 ⟨H, j, none⟩ (.int .u64 ((v : Int))))
       have HK9 : Hid (KS [(H, .cells (lk .u64 (V.set j (v : Int))) 127), (R, .cells (lk .u64 (rw_ 18 (rR key))) 127)] [] w ww9) := by rw [hv9]; exact hDx (HK8.out.setK 0 rfl j ((v : Int)))
       rw [← hv9]
       clear hv9
       rw [← HJ.out.1] at HK9
       clear c0 z0 lV
       go_wp2_with fail
       go_roundw
       case rel => exact ⟨j + 1, HJ.out.2.1, by first | rfl | go_num, HK9.out⟩
       case measure => exact mea_i E j HJ.out.2.1
      obtain rfl := Nat.le_antisymm hj (Nat.le_of_not_lt hlt)
      clear hj hlt
      obtain ⟨x, v, e1, k1, es, j18, j1, j2⟩ := aE_i hn s k j HL.out.2.2.2.2.1 HL.out.2.2.2.2.2.1 HL.out.2.2.2.2.2.2
      have c0 := (HK7.out.rk 0 rfl (rw_len' _ _)).cell j j18
      rw [e1] at c0
      obtain ⟨V, hV⟩ := nm (rw_ 18 (aJ hn s k j))
      have lV : V.length = 18 := by rw [hV, rw_len']
      rw [← hV] at HK7
      rw [← hV] at es
      have z0 := (HK7.out.rk 0 rfl lV).fz
      replace es := hDx es
      clear hV e1 j18
      go_upto_region 26 with fail
      obtain ⟨ww8, hv8⟩ := nm (World.setCell wr ⟨H, j, none⟩ (.int .u64 ((v : Int))))
      have HK8 : Hid (KS [(H, .cells (lk .u64 (V.set j (v : Int))) 127), (R, .cells (lk .u64 (rw_ 18 (rR key))) 127)] [] w ww8) := by rw [hv8]; exact hDx (HK7.out.setK 0 rfl j ((v : Int)))
      rw [← hv8]
      clear hv8
      rw [← es.out] at HK8
      clear es c0 z0 k1 lV
      have HB5 := hDx (aR_bq hn s k)
      obtain ⟨AR, hAR⟩ := nm (aR hn s k)
      rw [← hAR] at HK8 HB5
      have hst : hNn key s (k + 1) = cN (mdR (vs 256 (lim 256 (cN AR)) 18 * vs 256 (rR key) 18)) := by rw [hAR]; exact HL.out.2.2.2.1
      replace hst := hDx hst
      clear hAR
      try simp only [Act.put, sAx, s0x, s1x]
      refine wp_region_cv 4 [87, 88, 89, 90] [[], [87], [], [88, 89]] [(87, .agg (lk .u64 (rw_ 18 (AR)))), (88, .agg (lk .u64 (rw_ 18 (lim 256 (cN AR))))), (89, .agg (lk .u64 (rw_ 18 (rR key)))), (90, .agg (lk .u64 (rw_ 18 (lim 256 (cN (mdR (vs 256 (lim 256 (cN AR)) 18 * vs 256 (rR key) 18)))))))] rfl (by kernel_rfl) (by kernel_rfl) (by rfl) (by kernel_rfl) ?hO4 ?hE4
      case hO4 =>
       refine ⟨?_, ?_, ?_, ?_, trivial⟩
       ·intro act u HB HO HA
        have e10 : act.eval (.tmp 10) = .pointer (some ⟨H, 0, none⟩) := HO 10 (by decide)
        have HS := HK8.out.drew.call HB
        exact calm_lM 87 10 e10 (HS.get 0 rfl) ag127 (ext18 _) (sz18 _) rfl rfl rfl rfl
       ·intro act u HB HO HA
        have e87 : _ = _ := qA HA 87
        refine calm_call 88 #[.agg (lk .u64 (rw_ 18 (AR)))] rfl rfl ?_ (by kernel_rfl) (rcarry_any AR HB5.out u) ?_ rfl
        ·simp only [mTx, mCx, mNx, e87]
         try rfl
        rintro e u1 ⟨rfl, B1⟩
        exact ⟨_, rfl, rfl, B1⟩
       ·intro act u HB HO HA
        have e6 : act.eval (.tmp 6) = .pointer (some ⟨R, 0, none⟩) := HO 6 (by decide)
        have HS := HK8.out.drew.call HB
        exact calm_lM 89 6 e6 (HS.get 1 rfl) ag127 (ext18 _) (sz18 _) rfl rfl rfl rfl
       intro act u HB HO HA
       have e88 : _ = _ := qA HA 88
       have e89 : _ = _ := qA HA 89
       refine calm_call 90 #[.agg (lk .u64 (rw_ 18 (lim 256 (cN AR)))), .agg (lk .u64 (rw_ 18 (rR key)))] rfl rfl ?_ (by kernel_rfl) (rtimes_any (lim 256 (cN AR)) (rR key) (lim_255 _) (rR_le key) u) ?_ rfl
       ·simp only [mTx, mCx, mNx, e88, e89]
        try rfl
       rintro e u1 ⟨rfl, B1⟩
       exact ⟨_, rfl, rfl, B1⟩
      intro ww9 HB
      have HK9 := hDx (HK8.out.drew.call HB)
      simp only [fillL, Act.put, sAx, s0x, s1x, dSx, d0x]
      clear HB
      have FS := (HK9.out.rk 0 rfl (rw_len' _ _))
      go_upto_region 19 with (refine wpList_store_rk rfl _ _ rfl rfl rfl FS ty127 (rw_len' _ _) ?_)
      obtain ⟨ww10, hv10⟩ := nm (World.setRow ww9 H (lk .u64 (rw_ 18 (lim 256 (cN (mdR (vs 256 (lim 256 (cN AR)) 18 * vs 256 (rR key) 18)))))))
      have HK10 : Hid (KS [(H, .cells (lk .u64 (rw_ 18 (lim 256 (cN (mdR (vs 256 (lim 256 (cN AR)) 18 * vs 256 (rR key) 18)))))) 127), (R, .cells (lk .u64 (rw_ 18 (rR key))) 127)] [] w ww10) := by rw [hv10]; exact hDx (HK9.out.setRow 0 rfl _)
      rw [← hv10]
      clear hv10
      clear FS
      rw [← hst.out] at HK10
      go_wp2_with fail
      refine ⟨?_, ?measure⟩
      iterate 43 (apply Exists.intro)
      refine ⟨?rel, rfl⟩
      case rel => exact ⟨k + 1, HL.out.1, by rw [← HL.out.2.1], HK10.out⟩
      case measure => exact HL.out.2.2.1
     obtain ⟨hkn, g1⟩ := nch_end s.size k hk hlt
     obtain ⟨hN1, hN2⟩ := hNn_all key s k
     obtain ⟨PN, hPN⟩ := nm (PHn key s k)
     have hrow : rw_ 18 (lim 256 (hNn key s k % Q)) = rw_ 18 (lim 256 PN) := by rw [hN2, hPN]
     have hT : tagS key s = strOfNums (rw_ 16 (lim 256 (PN + SN key))) := by unfold tagS tagN; rw [hPN, hkn]
     have HT := hDx (And.intro hT (And.intro hN1 hrow))
     clear hN1 hN2 hPN hrow hT hkn hk hlt
     have FH := (HK6.out.rk 0 rfl (rw_len' _ _))
     go_wp2_with (with_reducible show wpList _ _ _ _ _ _; refine wpList_load_rk (b := H) rfl _ rfl rfl FH ty127 ?_)
     refine (rwhole_any (hNn key s k) HT.out.2.1 _).mono ?_
     rintro e ww7 ⟨rfl, B1⟩
     simp only []
     have HK7 := hDx (HK6.out.call B1)
     clear B1
     rw [HT.out.2.2]
     clear FH g1
     have FS := (HK7.out.rk 0 rfl (rw_len' _ _))
     go_upto_region 29 with (refine wpList_store_rk rfl _ _ rfl rfl rfl FS ty127 (rw_len' _ _) ?_)
     obtain ⟨ww8, hv8⟩ := nm (World.setRow ww7 H (lk .u64 (rw_ 18 (lim 256 PN))))
     have HK8 : Hid (KS [(H, .cells (lk .u64 (rw_ 18 (lim 256 PN))) 127), (R, .cells (lk .u64 (rw_ 18 (rR key))) 127)] [] w ww8) := by rw [hv8]; exact hDx (HK7.out.setRow 0 rfl _)
     rw [← hv8]
     clear hv8
     clear FS
     go_upto_region 30 with fail
     have hm9 := (HK8.out.made (.cells (lk .u8 (zi 16)) 5))
     obtain ⟨O, hgO⟩ := nm ww8.heap.size
     obtain ⟨ww9, hv9⟩ := nm (World.alloc ww8 (.cells (lk .u8 (zi 16)) 5))
     rw [← hv9, ← hgO] at hm9
     rw [← hv9]
     try rw [← hgO]
     have HK9 : Hid (KS [(O, .cells (lk .u8 (rw_ 16 (fun _ => 0))) 5), (H, .cells (lk .u64 (rw_ 18 (lim 256 PN))) 127), (R, .cells (lk .u64 (rw_ 18 (rR key))) 127)] [] w ww9) := hDx hm9
     clear hm9 hv9 hgO
     clear hmk
     rw [← tK_zero 16 (PN + SN key)] at HK9
     go_upto_region 31 with fail
     go_loopw [14, 16] (fun vX vS wr => ∃ i : Nat, i ≤ 16 ∧ vS = .int .i64 (i : Int) ∧ vX = .int .u64 (cS PN (SN key) i : Int) ∧ KS [(O, .cells (lk .u8 (rw_ 16 (tK (PN + SN key) i))) 5), (H, .cells (lk .u64 (rw_ 18 (lim 256 PN))) 127), (R, .cells (lk .u64 (rw_ 18 (rR key))) 127)] [] w wr) (fun vX vS _ => 16 - (intOf vS).toNat)
     case atStart => exact ⟨0, Nat.zero_le _, rfl, by rw [cS_zero]; rfl, HK9.out⟩
     obtain ⟨i, hi, rfl, rfl, HK⟩ := hrel
     have HK10 := hDx HK
     clear HK
     by_cases hlt : i < 16
     ·have hi1 : (0 : Int) ≤ i := by omega
      have hi2 : (i : Int) < 16 := by omega
      obtain ⟨hi3, hi4⟩ := i64w (x := (i : Int) + 1) (n := i + 1) (by omega) (by omega)
      obtain ⟨c, x, kb, j16, y, v, w1, cn, hc, e1, hkb, j1, j2, j3, j4, j5, ukb, k1, k2, hby, hsh8, hnx, es, i18, i18b⟩ := rtg_i key PN i hlt
      rw [hc]
      have ks := fun u => idxS (s := key) (k := j16) (by rw [HH.out.1]; exact j5) u
      rw [hkb] at ks
      obtain ⟨V, hV⟩ := nm (rw_ 16 (tK (PN + SN key) i))
      have lV : V.length = 16 := by rw [hV, rw_len']
      rw [← hV] at HK10
      rw [← hV] at es
      have lH : (rw_ 18 (lim 256 PN)).length = 18 := rw_len' _ _
      have HJ := hDx (And.intro es (And.intro hlt hnx))
      clear hV es hc hkb hnx j5
      go_upto_region 33 with fail
      try simp only [Act.put, sAx, s0x, s1x]
      refine wp_region_cv 11 [98, 99, 100, 101, 102, 103, 104, 105, 106, 107, 108] [[], [98], [99], [], [], [102], [101, 103], [104], [100, 105], [], [106, 107]] [(98, .int .i64 (i : Int)), (99, .pointer (some ⟨H, i, none⟩)), (100, .int .u64 (x : Int)), (101, .string key), (102, .int .i64 (i : Int)), (103, .int .i64 (j16 : Int)), (104, .int .u8 (kb : Int)), (105, .int .u64 (kb : Int)), (106, .int .u64 (y : Int)), (107, .int .u64 (c : Int)), (108, .int .u64 (v : Int))] rfl (by kernel_rfl) (by kernel_rfl) (by rfl) (by kernel_rfl) ?hO5 ?hE5
      case hO5 =>
       refine ⟨?_, ?_, ?_, ?_, ?_, ?_, ?_, ?_, ?_, ?_, ?_, trivial⟩
       ·intro act u HB HO HA
        have e16 := gE (x := .int .i64 (i : Int)) (HO 16 (by decide))
        refine calm_val 98 _ rfl ?_ rfl rfl
        clear HB HO HA
        go_simp
        try rfl
       ·intro act u HB HO HA
        have e10 := gE (x := .pointer (some ⟨H, 0, none⟩)) (HO 10 (by decide))
        have e98 : _ = _ := gE (qA HA 98)
        refine calm_val 99 _ rfl ?_ rfl rfl
        clear HB HO HA
        go_simp
        try rfl
       ·intro act u HB HO HA
        have e99 : _ = _ := gE (qA HA 99)
        have HS := HK10.out.drew.call HB
        have lT : u.cell? ⟨H, i, none⟩ = some (.int .u64 (x : Int)) := by
         have q := (HS.rk 1 rfl lH).cell i i18
         rw [e1] at q
         exact q
        refine calm_val 100 _ rfl ?_ rfl rfl
        clear HB HO HA HS
        go_simp
        try rfl
       ·intro act u HB HO HA
        have e0 := gE (x := .string key) (HO 0 (by decide))
        refine calm_val 101 _ rfl ?_ rfl rfl
        clear HB HO HA
        go_simp
        try rfl
       ·intro act u HB HO HA
        have e16 := gE (x := .int .i64 (i : Int)) (HO 16 (by decide))
        refine calm_val 102 _ rfl ?_ rfl rfl
        clear HB HO HA
        go_simp
        try rfl
       ·intro act u HB HO HA
        have e102 : _ = _ := gE (qA HA 102)
        refine calm_val 103 _ rfl ?_ rfl rfl
        clear HB HO HA
        go_simp
        try rfl
       ·intro act u HB HO HA
        have e101 : _ = _ := gE (qA HA 101)
        have e103 : _ = _ := gE (qA HA 103)
        have ks2 := ks u
        refine calm_val 104 _ rfl ?_ rfl rfl
        clear HB HO HA
        go_simp
        try rfl
       ·intro act u HB HO HA
        have e104 : _ = _ := gE (qA HA 104)
        refine calm_val 105 _ rfl ?_ rfl rfl
        clear HB HO HA
        go_simp
        try rfl
       ·intro act u HB HO HA
        have e100 : _ = _ := gE (qA HA 100)
        have e105 : _ = _ := gE (qA HA 105)
        refine calm_val 106 _ rfl ?_ rfl rfl
        clear HB HO HA
        go_simp
        try rfl
       ·intro act u HB HO HA
        have e14 := gE (x := .int .u64 (c : Int)) (HO 14 (by decide))
        refine calm_val 107 _ rfl ?_ rfl rfl
        clear HB HO HA
        go_simp
        try rfl
       intro act u HB HO HA
       have e106 : _ = _ := gE (qA HA 106)
       have e107 : _ = _ := gE (qA HA 107)
       refine calm_val 108 _ rfl ?_ rfl rfl
       clear HB HO HA
       go_simp
       try rfl
      intro ww11 HB
      have HK11 := hDx (HK10.out.drew.call HB)
      simp only [fillL, Act.put, sAx, s0x, s1x, dSx, d0x]
      clear HB
      clear k1 k2 ks ukb e1 j1 j2 j3 j4 lH i18
      have z0 := (HK11.out.rk 0 rfl lV).fz
      have c0 := (HK11.out.rk 0 rfl lV).cell i hlt
      clear hlt
      go_upto_region 32 with fail
      obtain ⟨ww12, hv12⟩ := nm (World.setCell ww11 ⟨O, i, none⟩ (.int .u8 ((w1 : Int))))
      have HK12 : Hid (KS [(O, .cells (lk .u8 (V.set i (w1 : Int))) 5), (H, .cells (lk .u64 (rw_ 18 (lim 256 PN))) 127), (R, .cells (lk .u64 (rw_ 18 (rR key))) 127)] [] w ww12) := by rw [hv12]; exact hDx (HK11.out.setK 0 rfl i ((w1 : Int)))
      rw [← hv12]
      clear hv12
      rw [← HJ.out.1] at HK12
      clear c0 z0 lV
      go_wp2_with fail
      go_roundw
      case rel =>
       exact ⟨i + 1, HJ.out.2.1, by first | rfl | go_num, by rw [HJ.out.2.2], HK12.out⟩
      case measure => exact measI 16 _ HJ.out.2.1
     obtain rfl : i = 16 := by omega
     try simp only [Int.cast_ofNat_Int]
     rw [tK_all] at HK10
     have hcv := (HK10.out.rk 0 rfl (rw_len' _ _)).conv 16
     rw [← HT.out.1] at hcv
     go_wp2_with fail
     go_ret2
     exact ⟨rfl, HK10.out.below⟩
end Go.Proofs.YtoplbfijodebmaaGreatDoor
